/- hindcastlaw07: texts joined: TreD, TreU, PreB, PreC, PreD, PreE, PreF, PreG, PreH, PreI, PreJ, PreL, PreM, TreZB, TreZC, TreZD, TreZE, TreV, TreW, TreZF, TreX, PreN, PreO, PreP, TreZG, PreR. -/
import Derived.Test.YtllbpdllkkcajaaGreatDoorPbh
namespace Go.Proofs.YtllbpdllkkcajaaGreatDoor
open Go.RowKit
section
attribute [local go_sem] bg bf aC aj au aI aU aH ax says_again
def Fq:Fm:=(.ite (.eqI (.x 0) (.c 2))
 (.mk [(.i .u8 (.c 3))] 5 1
 (.C 52 [.L 1] (.p (.one (.v 0))) ⟨0,0,0,1,0,0⟩
 (.C 51 [(.agg [.U 0,.J 1,.J 2,.J 3,.J 4,(.s (.x 0)),(.sl (.x 0))]),(.one (.v 0))] (.p (.B 0)) ⟨0,1,0,0,0,0⟩
 (.ret (.p (.B 0))))))
 (.ite (.eqI (.x 0) (.c 3))
 (.mk [(.c (.fn 88))] 81 1
 (.C 87 [(.agg [.U 0,.J 1,.J 2,.J 3,.J 4,(.s (.x 0)),(.sl (.x 0))]),.L 1] (.p (.B 0)) ⟨0,1,0,0,0,0⟩
 (.ret (.p (.B 0)))))
 (.ite (.eqI (.x 0) (.c 5))
 (.mk [(.c (.fn 88))] 81 1
 (.C 87 [(.agg [.U 0,.J 1,.J 2,.J 3,.J 4,(.s (.x 0)),(.sl (.x 0))]),.L 1] (.p (.B 0)) ⟨0,1,0,0,0,0⟩
 (.ret (.p (.B 0)))))
 (.ite (.eqI (.x 0) (.c 20))
 (.mk [(.c (.fn 88))] 81 1
 (.C 87 [(.agg [.U 0,.J 1,.J 2,.J 3,.J 4,(.s (.x 0)),(.sl (.x 0))]),.L 1] (.p (.B 0)) ⟨0,1,0,0,0,0⟩
 (.ret (.p (.B 0)))))
 (.ite (.eqI (.x 0) (.c 4))
 (.C 89 [(.agg [.U 0,.J 1,.J 2,.J 3,.J 4,(.s (.x 0)),(.sl (.x 0))])] (.p (.B 0)) ⟨0,1,0,0,0,0⟩
 (.ret (.p (.B 0))))
 (.ite (.eqI (.x 0) (.c 6))
 (.C 90 [(.one (.i .u8 (.c 7))),(.one (.i .u8 (.c 13)))] (.p (.one (.v 0))) ⟨0,0,0,1,0,0⟩
 (.C 51 [(.agg [.U 0,.J 1,.J 2,.J 3,.J 4,(.s (.x 0)),(.sl (.x 0))]),(.one (.v 0))] (.p (.B 0)) ⟨0,1,0,0,0,0⟩
 (.ret (.p (.B 0)))))
 (.ite (.eqI (.x 0) (.c 7))
 (.C 91 [(.agg [.U 0,.J 1,.J 2,.J 3,.J 4,(.s (.x 0)),(.sl (.x 0))])] (.p (.B 0)) ⟨0,1,0,0,0,0⟩
 (.ret (.p (.B 0))))
 (.ite (.eqI (.x 0) (.c 8))
 (.C 91 [(.agg [.U 0,.J 1,.J 2,.J 3,.J 4,(.s (.x 0)),(.sl (.x 0))])] (.p (.B 0)) ⟨0,1,0,0,0,0⟩
 (.ret (.p (.B 0))))
 (.ite (.eqI (.x 0) (.c 9))
 (.C 91 [(.agg [.U 0,.J 1,.J 2,.J 3,.J 4,(.s (.x 0)),(.sl (.x 0))])] (.p (.B 0)) ⟨0,1,0,0,0,0⟩
 (.ret (.p (.B 0))))
 (.ite (.eqI (.x 0) (.c 10))
 (.C 91 [(.agg [.U 0,.J 1,.J 2,.J 3,.J 4,(.s (.x 0)),(.sl (.x 0))])] (.p (.B 0)) ⟨0,1,0,0,0,0⟩
 (.ret (.p (.B 0))))
 (.ite (.eqI (.x 0) (.c 11))
 (.C 91 [(.agg [.U 0,.J 1,.J 2,.J 3,.J 4,(.s (.x 0)),(.sl (.x 0))])] (.p (.B 0)) ⟨0,1,0,0,0,0⟩
 (.ret (.p (.B 0))))
 (.ite (.eqI (.x 0) (.c 12))
 (.C 91 [(.agg [.U 0,.J 1,.J 2,.J 3,.J 4,(.s (.x 0)),(.sl (.x 0))])] (.p (.B 0)) ⟨0,1,0,0,0,0⟩
 (.ret (.p (.B 0))))
 (.ite (.eqI (.x 0) (.c 13))
 (.C 91 [(.agg [.U 0,.J 1,.J 2,.J 3,.J 4,(.s (.x 0)),(.sl (.x 0))])] (.p (.B 0)) ⟨0,1,0,0,0,0⟩
 (.ret (.p (.B 0))))
 (.ite (.eqI (.x 0) (.c 27))
 (.C 51 [(.agg [.U 0,.J 1,.J 2,.J 3,.J 4,(.s (.x 0)),(.sl (.x 0))]),(.one (.c (.fn 92)))] (.p (.B 0)) ⟨0,1,0,0,0,0⟩
 (.ret (.p (.B 0))))
 (.ite (.eqI (.x 0) (.c 28))
 (.mk [(.c (.fn 92)),(.c (.fn 92))] 81 2
 (.C 87 [(.agg [.U 0,.J 1,.J 2,.J 3,.J 4,(.s (.x 0)),(.sl (.x 0))]),.L 1] (.p (.B 0)) ⟨0,1,0,0,0,0⟩
 (.ret (.p (.B 0)))))
 (.ite (.eqI (.x 0) (.c 31))
 (.mk [(.c (.fn 92)),(.c (.fn 92))] 81 2
 (.C 87 [(.agg [.U 0,.J 1,.J 2,.J 3,.J 4,(.s (.x 0)),(.sl (.x 0))]),.L 1] (.p (.B 0)) ⟨0,1,0,0,0,0⟩
 (.ret (.p (.B 0)))))
 (.ite (.eqI (.x 0) (.c 29))
 (.mk [(.c (.fn 92))] 81 1
 (.C 87 [(.agg [.U 0,.J 1,.J 2,.J 3,.J 4,(.s (.x 0)),(.sl (.x 0))]),.L 1] (.p (.B 0)) ⟨0,1,0,0,0,0⟩
 (.ret (.p (.B 0)))))
 (.ite (.eqI (.x 0) (.c 30))
 (.mk [(.c (.fn 92))] 81 1
 (.C 87 [(.agg [.U 0,.J 1,.J 2,.J 3,.J 4,(.s (.x 0)),(.sl (.x 0))]),.L 1] (.p (.B 0)) ⟨0,1,0,0,0,0⟩
 (.ret (.p (.B 0)))))
 (.ite (.eqI (.x 0) (.c 32))
 (.mk [(.i .u8 (.c 19))] 5 1
 (.C 52 [.L 1] (.p (.one (.v 0))) ⟨0,0,0,1,0,0⟩
 (.mk [(.v 0)] 81 1
 (.C 87 [(.agg [.U 0,.J 1,.J 2,.J 3,.J 4,(.s (.x 0)),(.sl (.x 0))]),.L 2] (.p (.B 0)) ⟨0,1,0,0,0,0⟩
 (.ite (.x 0)
 (.ret (.p (.one (.b (.c true)))))
 (.mk [(.i .u8 (.c 20))] 5 1
 (.C 52 [.L 3] (.p (.one (.v 1))) ⟨0,0,0,1,0,0⟩
 (.mk [(.v 1),(.c (.fn 92))] 81 2
 (.C 87 [(.agg [.U 0,.J 1,.J 2,.J 3,.J 4,(.s (.x 0)),(.sl (.x 0))]),.L 4] (.p (.B 1)) ⟨0,1,0,0,0,0⟩
 (.ret (.p (.B 1))))))))))))
 (.ite (.eqI (.x 0) (.c 14))
 (.C 87 [(.agg [.U 0,.J 1,.J 2,.J 3,.J 4,(.s (.x 0)),(.sl (.x 0))]),(.one (.sl .nil))] (.p (.B 0)) ⟨0,1,0,0,0,0⟩
 (.ret (.p (.B 0))))
 (.ite (.eqI (.x 0) (.c 15))
 (.C 87 [(.agg [.U 0,.J 1,.J 2,.J 3,.J 4,(.s (.x 0)),(.sl (.x 0))]),(.one (.sl .nil))] (.p (.B 0)) ⟨0,1,0,0,0,0⟩
 (.ret (.p (.B 0))))
 (.ite (.eqI (.x 0) (.c 16))
 (.C 87 [(.agg [.U 0,.J 1,.J 2,.J 3,.J 4,(.s (.x 0)),(.sl (.x 0))]),(.one (.sl .nil))] (.p (.B 0)) ⟨0,1,0,0,0,0⟩
 (.ret (.p (.B 0))))
 (.ite (.eqI (.x 0) (.c 17))
 (.C 87 [(.agg [.U 0,.J 1,.J 2,.J 3,.J 4,(.s (.x 0)),(.sl (.x 0))]),(.one (.sl .nil))] (.p (.B 0)) ⟨0,1,0,0,0,0⟩
 (.ret (.p (.B 0))))
 (.ite (.eqI (.x 0) (.c 18))
 (.C 87 [(.agg [.U 0,.J 1,.J 2,.J 3,.J 4,(.s (.x 0)),(.sl (.x 0))]),(.one (.sl .nil))] (.p (.B 0)) ⟨0,1,0,0,0,0⟩
 (.ret (.p (.B 0))))
 (.ite (.eqI (.x 0) (.c 19))
 (.C 87 [(.agg [.U 0,.J 1,.J 2,.J 3,.J 4,(.s (.x 0)),(.sl (.x 0))]),(.one (.sl .nil))] (.p (.B 0)) ⟨0,1,0,0,0,0⟩
 (.ret (.p (.B 0))))
 (.ite (.eqI (.x 0) (.c 21))
 (.C 87 [(.agg [.U 0,.J 1,.J 2,.J 3,.J 4,(.s (.x 0)),(.sl (.x 0))]),(.one (.sl .nil))] (.p (.B 0)) ⟨0,1,0,0,0,0⟩
 (.ret (.p (.B 0))))
 (.ite (.eqI (.x 0) (.c 22))
 (.C 87 [(.agg [.U 0,.J 1,.J 2,.J 3,.J 4,(.s (.x 0)),(.sl (.x 0))]),(.one (.sl .nil))] (.p (.B 0)) ⟨0,1,0,0,0,0⟩
 (.ret (.p (.B 0))))
 (.ite (.eqI (.x 0) (.c 23))
 (.C 87 [(.agg [.U 0,.J 1,.J 2,.J 3,.J 4,(.s (.x 0)),(.sl (.x 0))]),(.one (.sl .nil))] (.p (.B 0)) ⟨0,1,0,0,0,0⟩
 (.ret (.p (.B 0))))
 (.ite (.eqI (.x 0) (.c 24))
 (.C 87 [(.agg [.U 0,.J 1,.J 2,.J 3,.J 4,(.s (.x 0)),(.sl (.x 0))]),(.one (.sl .nil))] (.p (.B 0)) ⟨0,1,0,0,0,0⟩
 (.ret (.p (.B 0))))
 (.ite (.eqI (.x 0) (.c 25))
 (.C 87 [(.agg [.U 0,.J 1,.J 2,.J 3,.J 4,(.s (.x 0)),(.sl (.x 0))]),(.one (.sl .nil))] (.p (.B 0)) ⟨0,1,0,0,0,0⟩
 (.ret (.p (.B 0))))
 (.ite (.eqI (.x 0) (.c 26))
 (.C 87 [(.agg [.U 0,.J 1,.J 2,.J 3,.J 4,(.s (.x 0)),(.sl (.x 0))]),(.one (.sl .nil))] (.p (.B 0)) ⟨0,1,0,0,0,0⟩
 (.ret (.p (.B 0))))
 (.ret (.p (.one (.b (.c false))))))))))))))))))))))))))))))))))))
theorem Py:aZ ⟨true,[1000005]⟩ Tryz.prog (fun l=>([]:List bK).getD l ⟨[],[],[]⟩) Tryz.f53=Fq:=by kernel_rfl
theorem Wy:az Tryz.prog .zero Tryz.f53.params.toList=some ([(.agg [.U 0,.J 1,.J 2,.J 3,.J 4,(.s (.x 0)),(.sl (.x 0))])],⟨5,0,1,0,1,0⟩):=by kernel_rfl
def fG (k n:Int) (l:List Ng):Bool:=
 if k=2 then l.all (wO [3])
 else if k=3 then rowB [Oo] l
 else if k=5 then rowB [Oo] l
 else if k=20 then rowB [Oo] l
 else if k=4 then YM n l
 else if k=6 then l.all (ut 7 13)
 else if k=7 then stB k l
 else if k=8 then stB k l
 else if k=9 then stB k l
 else if k=10 then stB k l
 else if k=11 then stB k l
 else if k=12 then stB k l
 else if k=13 then stB k l
 else if k=27 then l.all wE
 else if k=28 then rowB [wE,wE] l
 else if k=31 then rowB [wE,wE] l
 else if k=29 then rowB [wE] l
 else if k=30 then rowB [wE] l
 else if k=32 then rowB [wO [19]] l||rowB [wO [20],wE] l
 else if k=14 then rowB [] l
 else if k=15 then rowB [] l
 else if k=16 then rowB [] l
 else if k=17 then rowB [] l
 else if k=18 then rowB [] l
 else if k=19 then rowB [] l
 else if k=21 then rowB [] l
 else if k=22 then rowB [] l
 else if k=23 then rowB [] l
 else if k=24 then rowB [] l
 else if k=25 then rowB [] l
 else if k=26 then rowB [] l else false
set_option maxRecDepth 100000 in
set_option maxHeartbeats 16000000 in
def J6:Ct Tryz.prog where
 f:=53
 spec:=fun args h φ=>∃ x sl l,args=[lkv x sl]/\NG h sl l/\l.length<=1000000/\sl.n<=sl.c/\φ (.bool (fG x.k x.n l)) h
 ok:=by
  rintro args h φ w ⟨x,sl,l,rfl,R,hl,hc,hφ⟩ hH;refine dh (bn Tryz.func53 Py Wy [zK,yM,Ii,X9,vz,RI] (fun v k=>∃ k',dA k' k/\φ v k') (bP) (bu) ⟨[x.k,x.l,x.c,x.z,x.n],[],[x.x],[],[sl],[],h,df⟩ ⟨rfl,rfl,rfl,rfl,rfl,rfl⟩ af ?_ w hH rfl);generalize hE:(⟨aG _,_,_,_⟩:Env)=E;have sbd:E.spec 52=(zK).spec:=by rw[<- hE];rfl
  have sbg:E.spec 51=(yM).spec:=by rw[<- hE];rfl
  have sbc:E.spec 87=(Ii).spec:=by rw[<- hE];rfl
  have sbh:E.spec 89=(X9).spec:=by rw[<- hE];rfl
  have sbi:E.spec 90=(vz).spec:=by rw[<- hE];rfl
  have sbj:E.spec 91=(RI).spec:=by rw[<- hE];rfl
  have ep:E.post=(fun v k=>∃ k',dA k' k/\φ v k'):=by rw[<- hE]
  clear hE;unfold Fq;unfold fG at hφ;have fin:∀ (C:Ctx) (b:Bool) (e:BE),dA h C.h->e.den C=b->φ (.bool b) h->Then E (.ret (.p (.one (.b e)))) C:=by
   intro C b e hC he hb;rw[ak,ep];refine⟨h,hC,?_⟩;simpa[go_sem,he] using hb
  by_cases c2:x.k=2
  . rw[if_pos c2] at hφ;rw[aj,if_pos (by simpa[go_sem] using c2)];rw[ae,aK];intro b hb;have hb':=hset hb;rw[ag,sbd];refine⟨_,rfl,fun pb kb Tb hkb hpb=>?_⟩;refine⟨fun h=>(by cases h),(bQ _ _).2 ⟨⟨[],[],[],[_],[],[]⟩,rfl,by intro u hu;simp at hu;subst hu;rfl,rfl,?_⟩⟩;have hkkb:=dA.trans (hb' _) hkb;have hrob:Rows kb ⟨some (b,0),1,1⟩ (Qq [3]) 1:=nD (hkb _ _ (aA _ _ _)) rfl;have hwb:=rD hpb hrob (by decide);rw[ag,sbg];refine⟨x,sl,l,_,_,rfl,R.le hkkb,hl,hwb,?_⟩;refine rR ⟨[],[_],[],[],[],[]⟩ rfl af rfl ?_;exact fin _ _ _ hkkb rfl hφ
  rw[if_neg c2] at hφ;rw[aj,if_neg (by simpa[go_sem] using c2),ae];by_cases c3:x.k=3
  . rw[if_pos c3] at hφ;rw[aj,if_pos (by simpa[go_sem] using c3)];rw[ae,aK];intro b hb;have hb':=hset hb;rw[ag,sbc];refine⟨x,sl,l,_,_,rfl,R.le (hb' _),hl,rF (aA _ _ _) (rE _),?_⟩;refine rR ⟨[],[_],[],[],[],[]⟩ rfl af rfl ?_;exact fin _ _ _ (hb' _) rfl hφ
  rw[if_neg c3] at hφ;rw[aj,if_neg (by simpa[go_sem] using c3),ae];by_cases c5:x.k=5
  . rw[if_pos c5] at hφ;rw[aj,if_pos (by simpa[go_sem] using c5)];rw[ae,aK];intro b hb;have hb':=hset hb;rw[ag,sbc];refine⟨x,sl,l,_,_,rfl,R.le (hb' _),hl,rF (aA _ _ _) (rE _),?_⟩;refine rR ⟨[],[_],[],[],[],[]⟩ rfl af rfl ?_;exact fin _ _ _ (hb' _) rfl hφ
  rw[if_neg c5] at hφ;rw[aj,if_neg (by simpa[go_sem] using c5),ae];by_cases c20:x.k=20
  . rw[if_pos c20] at hφ;rw[aj,if_pos (by simpa[go_sem] using c20)];rw[ae,aK];intro b hb;have hb':=hset hb;rw[ag,sbc];refine⟨x,sl,l,_,_,rfl,R.le (hb' _),hl,rF (aA _ _ _) (rE _),?_⟩;refine rR ⟨[],[_],[],[],[],[]⟩ rfl af rfl ?_;exact fin _ _ _ (hb' _) rfl hφ
  rw[if_neg c20] at hφ;rw[aj,if_neg (by simpa[go_sem] using c20),ae];by_cases c4:x.k=4
  . rw[if_pos c4] at hφ;rw[aj,if_pos (by simpa[go_sem] using c4)];rw[ag,sbh];refine⟨x,sl,l,rfl,R,hl,hc,?_⟩;refine rR ⟨[],[_],[],[],[],[]⟩ rfl af rfl ?_;exact fin _ _ _ (fun _ _ h=>h) rfl hφ
  rw[if_neg c4] at hφ;rw[aj,if_neg (by simpa[go_sem] using c4),ae];by_cases c6:x.k=6
  . rw[if_pos c6] at hφ;rw[aj,if_pos (by simpa[go_sem] using c6)];rw[ag,sbi];refine⟨7,13,rfl,fun p q k hk h1 h2=>?_⟩;refine⟨fun h=>(by cases h),(bQ _ _).2 ⟨⟨[],[],[],[_],[],[]⟩,rfl,by intro u hu;simp at hu;subst hu;rfl,rfl,?_⟩⟩;rw[ag,sbg];refine⟨x,sl,l,_,_,rfl,R.le hk,hl,aby h1 h2,?_⟩;refine rR ⟨[],[_],[],[],[],[]⟩ rfl af rfl ?_;exact fin _ _ _ hk rfl hφ
  rw[if_neg c6] at hφ;rw[aj,if_neg (by simpa[go_sem] using c6),ae];by_cases c7:x.k=7
  . rw[if_pos c7] at hφ;rw[aj,if_pos (by simpa[go_sem] using c7)];rw[ag,sbj];refine⟨x,sl,l,rfl,R,hl,?_⟩;refine rR ⟨[],[_],[],[],[],[]⟩ rfl af rfl ?_;exact fin _ _ _ (fun _ _ h=>h) rfl hφ
  rw[if_neg c7] at hφ;rw[aj,if_neg (by simpa[go_sem] using c7),ae];by_cases c8:x.k=8
  . rw[if_pos c8] at hφ;rw[aj,if_pos (by simpa[go_sem] using c8)];rw[ag,sbj];refine⟨x,sl,l,rfl,R,hl,?_⟩;refine rR ⟨[],[_],[],[],[],[]⟩ rfl af rfl ?_;exact fin _ _ _ (fun _ _ h=>h) rfl hφ
  rw[if_neg c8] at hφ;rw[aj,if_neg (by simpa[go_sem] using c8),ae];by_cases c9:x.k=9
  . rw[if_pos c9] at hφ;rw[aj,if_pos (by simpa[go_sem] using c9)];rw[ag,sbj];refine⟨x,sl,l,rfl,R,hl,?_⟩;refine rR ⟨[],[_],[],[],[],[]⟩ rfl af rfl ?_;exact fin _ _ _ (fun _ _ h=>h) rfl hφ
  rw[if_neg c9] at hφ;rw[aj,if_neg (by simpa[go_sem] using c9),ae];by_cases c10:x.k=10
  . rw[if_pos c10] at hφ;rw[aj,if_pos (by simpa[go_sem] using c10)];rw[ag,sbj];refine⟨x,sl,l,rfl,R,hl,?_⟩;refine rR ⟨[],[_],[],[],[],[]⟩ rfl af rfl ?_;exact fin _ _ _ (fun _ _ h=>h) rfl hφ
  rw[if_neg c10] at hφ;rw[aj,if_neg (by simpa[go_sem] using c10),ae];by_cases c11:x.k=11
  . rw[if_pos c11] at hφ;rw[aj,if_pos (by simpa[go_sem] using c11)];rw[ag,sbj];refine⟨x,sl,l,rfl,R,hl,?_⟩;refine rR ⟨[],[_],[],[],[],[]⟩ rfl af rfl ?_;exact fin _ _ _ (fun _ _ h=>h) rfl hφ
  rw[if_neg c11] at hφ;rw[aj,if_neg (by simpa[go_sem] using c11),ae];by_cases c12:x.k=12
  . rw[if_pos c12] at hφ;rw[aj,if_pos (by simpa[go_sem] using c12)];rw[ag,sbj];refine⟨x,sl,l,rfl,R,hl,?_⟩;refine rR ⟨[],[_],[],[],[],[]⟩ rfl af rfl ?_;exact fin _ _ _ (fun _ _ h=>h) rfl hφ
  rw[if_neg c12] at hφ;rw[aj,if_neg (by simpa[go_sem] using c12),ae];by_cases c13:x.k=13
  . rw[if_pos c13] at hφ;rw[aj,if_pos (by simpa[go_sem] using c13)];rw[ag,sbj];refine⟨x,sl,l,rfl,R,hl,?_⟩;refine rR ⟨[],[_],[],[],[],[]⟩ rfl af rfl ?_;exact fin _ _ _ (fun _ _ h=>h) rfl hφ
  rw[if_neg c13] at hφ;rw[aj,if_neg (by simpa[go_sem] using c13),ae];by_cases c27:x.k=27
  . rw[if_pos c27] at hφ;rw[aj,if_pos (by simpa[go_sem] using c27)];rw[ag,sbg];refine⟨x,sl,l,_,_,rfl,R,hl,dS _,?_⟩;refine rR ⟨[],[_],[],[],[],[]⟩ rfl af rfl ?_;exact fin _ _ _ (fun _ _ h=>h) rfl hφ
  rw[if_neg c27] at hφ;rw[aj,if_neg (by simpa[go_sem] using c27),ae];by_cases c28:x.k=28
  . rw[if_pos c28] at hφ;rw[aj,if_pos (by simpa[go_sem] using c28)];rw[ae,aK];intro b hb;have hb':=hset hb;rw[ag,sbc];refine⟨x,sl,l,_,_,rfl,R.le (hb' _),hl,wQ (aA _ _ _) (dS _) (dS _),?_⟩;refine rR ⟨[],[_],[],[],[],[]⟩ rfl af rfl ?_;exact fin _ _ _ (hb' _) rfl hφ
  rw[if_neg c28] at hφ;rw[aj,if_neg (by simpa[go_sem] using c28),ae];by_cases c31:x.k=31
  . rw[if_pos c31] at hφ;rw[aj,if_pos (by simpa[go_sem] using c31)];rw[ae,aK];intro b hb;have hb':=hset hb;rw[ag,sbc];refine⟨x,sl,l,_,_,rfl,R.le (hb' _),hl,wQ (aA _ _ _) (dS _) (dS _),?_⟩;refine rR ⟨[],[_],[],[],[],[]⟩ rfl af rfl ?_;exact fin _ _ _ (hb' _) rfl hφ
  rw[if_neg c31] at hφ;rw[aj,if_neg (by simpa[go_sem] using c31),ae];by_cases c29:x.k=29
  . rw[if_pos c29] at hφ;rw[aj,if_pos (by simpa[go_sem] using c29)];rw[ae,aK];intro b hb;have hb':=hset hb;rw[ag,sbc];refine⟨x,sl,l,_,_,rfl,R.le (hb' _),hl,rF (aA _ _ _) (dS _),?_⟩;refine rR ⟨[],[_],[],[],[],[]⟩ rfl af rfl ?_;exact fin _ _ _ (hb' _) rfl hφ
  rw[if_neg c29] at hφ;rw[aj,if_neg (by simpa[go_sem] using c29),ae];by_cases c30:x.k=30
  . rw[if_pos c30] at hφ;rw[aj,if_pos (by simpa[go_sem] using c30)];rw[ae,aK];intro b hb;have hb':=hset hb;rw[ag,sbc];refine⟨x,sl,l,_,_,rfl,R.le (hb' _),hl,rF (aA _ _ _) (dS _),?_⟩;refine rR ⟨[],[_],[],[],[],[]⟩ rfl af rfl ?_;exact fin _ _ _ (hb' _) rfl hφ
  rw[if_neg c30] at hφ;rw[aj,if_neg (by simpa[go_sem] using c30),ae];by_cases c32:x.k=32
  . rw[if_pos c32] at hφ;rw[aj,if_pos (by simpa[go_sem] using c32)];rw[ae,aK];intro b hb;have hb':=hset hb;rw[ag,sbd];refine⟨_,rfl,fun pb kb Tb hkb hpb=>?_⟩;refine⟨fun h=>(by cases h),(bQ _ _).2 ⟨⟨[],[],[],[_],[],[]⟩,rfl,by intro u hu;simp at hu;subst hu;rfl,rfl,?_⟩⟩;have hkkb:=dA.trans (hb' _) hkb;have hrob:Rows kb ⟨some (b,0),1,1⟩ (Qq [19]) 1:=nD (hkb _ _ (aA _ _ _)) rfl;have hwb:=rD hpb hrob (by decide);rw[ae,aK];intro c hc2;have hc':=hset hc2;rw[ag,sbc];refine⟨x,sl,l,_,_,rfl,R.le (dA.trans hkkb (hc' _)),hl,rF (aA _ _ _) (hwb.le (hc' _)),?_⟩;refine rR ⟨[],[_],[],[],[],[]⟩ rfl af rfl ?_;cases hm:rowB [wO [19]] l with
    | true=>
      rw[hm] at hφ;rw[ah,if_pos (by simp[go_sem])];exact fin _ _ _ (dA.trans hkkb (hc' _)) rfl hφ
    | false=>
      rw[hm,Bool.false_or] at hφ;rw[ah,if_neg (by simp[go_sem]),ae,aK];intro d hd;have hd':=hset hd;rw[ag,sbd];refine⟨_,rfl,fun pd kd Td hkd hpd=>?_⟩;refine⟨fun h=>(by cases h),(bQ _ _).2 ⟨⟨[],[],[],[_],[],[]⟩,rfl,by intro u hu;simp at hu;subst hu;rfl,rfl,?_⟩⟩;have hkkd:=dA.trans (dA.trans (dA.trans hkkb (hc' _)) (hd' _)) hkd;have hrod:Rows kd ⟨some (d,0),1,1⟩ (Qq [20]) 1:=nD (hkd _ _ (aA _ _ _)) rfl;have hwd:=rD hpd hrod (by decide);rw[ae,aK];intro e he;have he':=hset he;rw[ag,sbc];refine⟨x,sl,l,_,_,rfl,R.le (dA.trans hkkd (he' _)),hl,wQ (aA _ _ _) (hwd.le (he' _)) (dS _),?_⟩;refine rR ⟨[],[_],[],[],[],[]⟩ rfl af rfl ?_;exact fin _ _ _ (dA.trans hkkd (he' _)) rfl hφ
  rw[if_neg c32] at hφ;rw[aj,if_neg (by simpa[go_sem] using c32),ae];by_cases c14:x.k=14
  . rw[if_pos c14] at hφ;rw[aj,if_pos (by simpa[go_sem] using c14)];rw[ag,sbc];refine⟨x,sl,l,_,_,rfl,R,hl,fZ _,?_⟩;refine rR ⟨[],[_],[],[],[],[]⟩ rfl af rfl ?_;exact fin _ _ _ (fun _ _ h=>h) rfl hφ
  rw[if_neg c14] at hφ;rw[aj,if_neg (by simpa[go_sem] using c14),ae];by_cases c15:x.k=15
  . rw[if_pos c15] at hφ;rw[aj,if_pos (by simpa[go_sem] using c15)];rw[ag,sbc];refine⟨x,sl,l,_,_,rfl,R,hl,fZ _,?_⟩;refine rR ⟨[],[_],[],[],[],[]⟩ rfl af rfl ?_;exact fin _ _ _ (fun _ _ h=>h) rfl hφ
  rw[if_neg c15] at hφ;rw[aj,if_neg (by simpa[go_sem] using c15),ae];by_cases c16:x.k=16
  . rw[if_pos c16] at hφ;rw[aj,if_pos (by simpa[go_sem] using c16)];rw[ag,sbc];refine⟨x,sl,l,_,_,rfl,R,hl,fZ _,?_⟩;refine rR ⟨[],[_],[],[],[],[]⟩ rfl af rfl ?_;exact fin _ _ _ (fun _ _ h=>h) rfl hφ
  rw[if_neg c16] at hφ;rw[aj,if_neg (by simpa[go_sem] using c16),ae];by_cases c17:x.k=17
  . rw[if_pos c17] at hφ;rw[aj,if_pos (by simpa[go_sem] using c17)];rw[ag,sbc];refine⟨x,sl,l,_,_,rfl,R,hl,fZ _,?_⟩;refine rR ⟨[],[_],[],[],[],[]⟩ rfl af rfl ?_;exact fin _ _ _ (fun _ _ h=>h) rfl hφ
  rw[if_neg c17] at hφ;rw[aj,if_neg (by simpa[go_sem] using c17),ae];by_cases c18:x.k=18
  . rw[if_pos c18] at hφ;rw[aj,if_pos (by simpa[go_sem] using c18)];rw[ag,sbc];refine⟨x,sl,l,_,_,rfl,R,hl,fZ _,?_⟩;refine rR ⟨[],[_],[],[],[],[]⟩ rfl af rfl ?_;exact fin _ _ _ (fun _ _ h=>h) rfl hφ
  rw[if_neg c18] at hφ;rw[aj,if_neg (by simpa[go_sem] using c18),ae];by_cases c19:x.k=19
  . rw[if_pos c19] at hφ;rw[aj,if_pos (by simpa[go_sem] using c19)];rw[ag,sbc];refine⟨x,sl,l,_,_,rfl,R,hl,fZ _,?_⟩;refine rR ⟨[],[_],[],[],[],[]⟩ rfl af rfl ?_;exact fin _ _ _ (fun _ _ h=>h) rfl hφ
  rw[if_neg c19] at hφ;rw[aj,if_neg (by simpa[go_sem] using c19),ae];by_cases c21:x.k=21
  . rw[if_pos c21] at hφ;rw[aj,if_pos (by simpa[go_sem] using c21)];rw[ag,sbc];refine⟨x,sl,l,_,_,rfl,R,hl,fZ _,?_⟩;refine rR ⟨[],[_],[],[],[],[]⟩ rfl af rfl ?_;exact fin _ _ _ (fun _ _ h=>h) rfl hφ
  rw[if_neg c21] at hφ;rw[aj,if_neg (by simpa[go_sem] using c21),ae];by_cases c22:x.k=22
  . rw[if_pos c22] at hφ;rw[aj,if_pos (by simpa[go_sem] using c22)];rw[ag,sbc];refine⟨x,sl,l,_,_,rfl,R,hl,fZ _,?_⟩;refine rR ⟨[],[_],[],[],[],[]⟩ rfl af rfl ?_;exact fin _ _ _ (fun _ _ h=>h) rfl hφ
  rw[if_neg c22] at hφ;rw[aj,if_neg (by simpa[go_sem] using c22),ae];by_cases c23:x.k=23
  . rw[if_pos c23] at hφ;rw[aj,if_pos (by simpa[go_sem] using c23)];rw[ag,sbc];refine⟨x,sl,l,_,_,rfl,R,hl,fZ _,?_⟩;refine rR ⟨[],[_],[],[],[],[]⟩ rfl af rfl ?_;exact fin _ _ _ (fun _ _ h=>h) rfl hφ
  rw[if_neg c23] at hφ;rw[aj,if_neg (by simpa[go_sem] using c23),ae];by_cases c24:x.k=24
  . rw[if_pos c24] at hφ;rw[aj,if_pos (by simpa[go_sem] using c24)];rw[ag,sbc];refine⟨x,sl,l,_,_,rfl,R,hl,fZ _,?_⟩;refine rR ⟨[],[_],[],[],[],[]⟩ rfl af rfl ?_;exact fin _ _ _ (fun _ _ h=>h) rfl hφ
  rw[if_neg c24] at hφ;rw[aj,if_neg (by simpa[go_sem] using c24),ae];by_cases c25:x.k=25
  . rw[if_pos c25] at hφ;rw[aj,if_pos (by simpa[go_sem] using c25)];rw[ag,sbc];refine⟨x,sl,l,_,_,rfl,R,hl,fZ _,?_⟩;refine rR ⟨[],[_],[],[],[],[]⟩ rfl af rfl ?_;exact fin _ _ _ (fun _ _ h=>h) rfl hφ
  rw[if_neg c25] at hφ;rw[aj,if_neg (by simpa[go_sem] using c25),ae];by_cases c26:x.k=26
  . rw[if_pos c26] at hφ;rw[aj,if_pos (by simpa[go_sem] using c26)];rw[ag,sbc];refine⟨x,sl,l,_,_,rfl,R,hl,fZ _,?_⟩;refine rR ⟨[],[_],[],[],[],[]⟩ rfl af rfl ?_;exact fin _ _ _ (fun _ _ h=>h) rfl hφ
  rw[if_neg c26] at hφ;rw[aj,if_neg (by simpa[go_sem] using c26),ae];rw[<- ae];exact fin _ _ _ (fun _ _ h=>h) rfl hφ
end
theorem acM {i j:Int}:∀ {st:List Int},(∀ e∈st,j<=e)->i<j->jX i st=st
 | [],_,_=>rfl
 | e::st,h,hij=>by
   have:=h e (by simp);rw[jX,if_neg (by omega)]
theorem DX {i:Int} {e:Int}:∀ {st:List Int},e∈jX i st->e∈st
 | [],h=>h
 | a::st,h=>by
   rw[jX] at h;split at h
   . exact List.mem_cons_of_mem _ (DX h)
   . exact h
theorem NQ {n i:Int} {st:List Int} {x:Ng} {l:List Ng} (hz:¬ (x.z<0\/n - 1 - i<x.z)) (h:∀ e∈jX i st,i+1+x.z<=e):gV n i st (x::l)=gV n (i+1) ((i+1+x.z)::jX i st) l:=by
 rw[gV,if_neg hz];cases hp:jX i st with
 | nil=>rfl
 | cons e st'=>
   have:=h e (by rw[hp];simp);simp only;rw[if_neg (by omega)]
theorem qX (n:Int):∀ (m:Nat) (ts:List Tr),Tr.ns ts<=m->∀ (i:Int) (st:List Int) (rest:List Ng),(∀ e∈jX i st,i+Tr.ns ts<=e)->i+Tr.ns ts<=n->gV n i st (Tr.rP ts++rest)=gV n (i+Tr.ns ts) (jX i st) rest
 | _,[],_,i,st,rest,_,_=>by
   rw[aQ];simp only[Tr.rP,Tr.iT,List.map_nil,List.nil_append,Int.natCast_zero,Int.add_zero];rw[jY]
 | 0,t::ts,hm,i,st,rest,_,_=>by rw[ay,mQ] at hm;omega
 | m+1,t::ts,hm,i,st,rest,hst,hn=>by
   obtain⟨k,l,c,nn,x,ks⟩:=t;have hnd:(Tr.nd k l c nn x ks).n=Tr.ns ks+1:=by rw[mQ,Tr.sz,mr]
   rw[ay,hnd] at hm hst hn⊢;rw[eG,nC,List.cons_append,List.cons_append,List.append_assoc,NQ (by simp only;omega) (fun e he=>by have:=hst e he;simp only;omega)];simp only;generalize hq:jX i st=q at *;have hmem:∀ e∈jX (i+1) ((i+1+(Tr.ns ks:Int))::q),i+1+(Tr.ns ks:Int)<=e:=fun e he=>by
    rcases List.mem_cons.1 (DX he) with rfl | h
    . omega
    . have:=hst e h;omega
   rw[qX n m ks (by omega) (i+1) _ _ hmem (by omega)];have hpp:jX (i+1+(Tr.ns ks:Int)) (jX (i+1) ((i+1+(Tr.ns ks:Int))::q))=jX (i+1+(Tr.ns ks:Int)) q:=by
    rw[jX];split
    . rename_i h;have h0:(Tr.ns ks:Int)=0:=by omega
      rw[h0,Int.add_zero,uF]
    . rw[jX,if_pos rfl]
   rw[<- jY,hpp,jY];rw[qX n m ts (by omega) (i+1+(Tr.ns ks:Int)) q rest (fun e he=>by have:=hst e (DX he);omega) (by omega)];have hfin:jX (i+1+(Tr.ns ks:Int)+(Tr.ns ts:Int)) (jX (i+1+(Tr.ns ks:Int)) q)=jX (i+1+(Tr.ns ks:Int)+(Tr.ns ts:Int)) q:=by
    by_cases h0:Tr.ns ts=0
    . rw[h0];simp only[Int.natCast_zero,Int.add_zero];rw[uF]
    . rw[acM (j:=i+1+(Tr.ns ks:Int)+(Tr.ns ts:Int)) (st:=q) (fun e he=>by have:=hst e he;omega) (by omega)]
   rw[<- jY,hfin,jY];congr 1;omega
theorem zZ (t:Tr):qY t.gs=true:=by
 have hl:=kN t;have hF:=qX t.n t.n [t] (by rw[ay,aQ];omega) 0 [] [] (by simp[jX]) (by rw[ay,aQ];omega);rw[eG,show Tr.rP []=[] from rfl,List.append_nil,List.append_nil] at hF;obtain⟨r,hr,hrl⟩:=qL t;have hz:t.g.z=(t.gs.length:Int) - 1:=by
  rw[hl,mQ];obtain⟨k,l,c,n,x,ks⟩:=t;show ((Tr.ns ks:Nat):Int)=_;rw[Tr.sz,mr];omega
 have hR:qY t.gs=(decide (t.g.z=(t.gs.length:Int) - 1)&&gV t.gs.length 0 [] t.gs):=by
  rw[hr];rfl
 rw[hR,hl,hF];rw[hl] at hz;rw[decide_eq_true hz,Bool.true_and];rfl
mutual
def Tr.subs:Tr->List Tr
 | .nd k l c n x ks=>.nd k l c n x ks::Tr.yl ks
def Tr.yl:List Tr->List Tr
 | []=>[]
 | t::ts=>t.subs++Tr.yl ts
end
def Tr.kl:Tr->List Tr
 | .nd _ _ _ _ _ ks=>ks
mutual
theorem abg:∀ t:Tr,t.subs.map Tr.g=t.gs
 | .nd k l c n x ks=>by rw[Tr.subs,List.map_cons,UJ ks,nC];rfl
theorem UJ:∀ ts:List Tr,(Tr.yl ts).map Tr.g=Tr.rP ts
 | []=>rfl
 | t::ts=>by rw[Tr.yl,List.map_append,abg t,UJ ts,eG]
end
theorem tZ (t:Tr):t.subs.length=t.n:=by rw[<- kN,<- abg,List.length_map]
mutual
theorem Jw:∀ (t:Tr) {l:List Ng} {p:Nat},Ps l p t->∀ (i:Nat) (s:Tr),t.subs[i]? = some s->Ps l (p+i) s
 | .nd k l c n x ks,L,p,P,i,s,h=>by
   rw[Tr.subs] at h;cases i with
   | zero=>simp at h;subst h;exact P
   | succ i=>
     rw[List.getElem?_cons_succ] at h;have:=Oe ks P.kids i s h;rw[show p+(i+1)=p+1+i by omega];exact this
theorem Oe:∀ (ts:List Tr) {l:List Ng} {p:Nat},JM l p ts->∀ (i:Nat) (s:Tr),(Tr.yl ts)[i]? = some s->Ps l (p+i) s
 | [],_,_,_,i,s,h=>by simp[Tr.yl] at h
 | t::ts,L,p,P,i,s,h=>by
   obtain⟨P1,P2⟩:=P.cons;rw[Tr.yl] at h;by_cases hi:i<t.subs.length
   . rw[List.getElem?_append_left hi] at h;exact Jw t P1 i s h
   . rw[List.getElem?_append_right (by omega)] at h;have:=Oe ts P2 _ s h;rw[tZ] at hi;rw[show p+i=p+t.n+(i - t.subs.length) by rw[tZ];omega];exact this
end
def okI (i:Nat) (s:Tr):Bool:=if i=0 then (s.kl.map Tr.g).all (wO [2,4]) else fieldsB s.g&&fG s.g.k s.g.n (s.kl.map Tr.g)
def xQ:Nat->List Tr->Bool
 | _,[]=>true
 | i,s::r=>okI i s&&xQ (i+1) r
def tC (t:Tr):Bool:=decide (t.g.k=1)&&fieldsB t.g&&xQ 0 t.subs
def Tok.p (t:Tok):Int×Int×List UInt8:=(t.k,t.n,t.x)
def Na:Nat->List UInt8->Option (List (Int×Int×List UInt8))
 | 0,_=>none
 | m+1,u=>
   if u.drop (sk false u)=[] then some [(8,0,[])]
   else if (one (u.drop (sk false u)) 0).f=0 then (Na m ((u.drop (sk false u)).drop (one (u.drop (sk false u)) 0).e)).map (((one (u.drop (sk false u)) 0).k,(one (u.drop (sk false u)) 0).n,(one (u.drop (sk false u)) 0).x)::·)
   else none
theorem Ji (p:Int->Bool) (s:List UInt8) (i j:Nat):rn p (s.drop i) j=rn p s (i+j):=by unfold rn;rw[List.drop_drop]
theorem Oc (s:List UInt8) (i a b:Nat):sub (s.drop i) a b=sub s (i+a) (i+b):=by
 unfold sub;rw[List.drop_take,List.drop_take,List.drop_drop];congr 1;omega
theorem acD (s:List UInt8) (i:Nat):(nm (s.drop i) 0).1=(nm s i).1/\(nm (s.drop i) 0).2.1=(nm s i).2.1/\(nm (s.drop i) 0).2.2.1=(nm s i).2.2.1/\((nm s i).1=0->(nm s i).2.2.2=i+(nm (s.drop i) 0).2.2.2):=by
 have e1:rn kY (s.drop i) 0=rn kY s i:=by rw[Ji];rfl
 have e2:rn inB (s.drop i) (rn kY s i)=rn inB s (i+rn kY s i):=Ji ..;have e3:bt (s.drop i) (rn kY s i)=bt s (i+rn kY s i):=ou ..;have e4:sub (s.drop i) 0 (rn kY s i)=sub s i (i+rn kY s i):=Oc ..;unfold nm;rw[e1,Nat.zero_add,e2,e3,e4];unfold qc;split
 . split<;>simp
 . split
   . split<;>simp;omega
   . simp
theorem ZF (s:List UInt8) (i:Nat):(one (s.drop i) 0).f=(one s i).f/\(one (s.drop i) 0).k=(one s i).k/\(one (s.drop i) 0).x=(one s i).x/\(one (s.drop i) 0).n=(one s i).n/\((one s i).f=0->(one s i).e=i+(one (s.drop i) 0).e):=by
 have e0:bt (s.drop i) 0=bt s i:=ou ..;have e1:rn inB (s.drop i) 0=rn inB s i:=by rw[Ji];rfl
 have e2:sub (s.drop i) 0 (rn inB s i)=sub s i (i+rn inB s i):=Oc ..;obtain⟨n1,n2,n3,n4⟩:=acD s i;unfold one;rw[e0,e1,Nat.zero_add,e2,n1,n2,n3,List.drop_zero];split
 . simp
 . split
   . exact⟨rfl,rfl,rfl,rfl,n4⟩
   . split
     . cases Bg (s.drop i) with
       | none=>simp
       | some r=>simp
     . split<;>simp
theorem Zu:∀ (m:Nat) {s:List UInt8} {i:Nat} {p:Int×Int} {acc:List Tok} {T:List (Int×Int×List UInt8)},i<=s.length->Na m (s.drop i)=some T->∃ L,EN m s i p acc=((0,0,0),acc++L)/\L.map Tok.p=T
 | 0,_,_,_,_,_,_,h=>by cases h
 | m+1,s,i,p,acc,T,hi,h=>by
   rw[Na] at h;have es:sk false (s.drop i)=jU false s i:=rfl;rw[es,List.drop_drop] at h;have hle:=Q9 (s:=s) (i:=i) false hi;rw[EN];split at h
   . rename_i h1;have:s.length<=i+jU false s i:=by have:=List.drop_eq_nil_iff.1 h1;exact this
     rw[if_pos this];cases h;exact⟨_,rfl,rfl⟩
   . rename_i h1;have hlt:¬ s.length<=i+jU false s i:=fun hh=>h1 (List.drop_eq_nil_of_le hh)
     rw[if_neg hlt];obtain⟨o1,o2,o3,o4,o5⟩:=ZF s (i+jU false s i);rw[o1] at h;split at h
     . rename_i hf;rw[if_pos hf];simp only[Option.map_eq_some_iff] at h;obtain⟨T',hT,rfl⟩:=h;have o5:=o5 hf;rw[List.drop_drop,<- o5] at hT;have he:=(DT (by omega) hf).2.1;obtain⟨L,hL,hp⟩:=Zu m (p:=mZ p (sub s i (one s (i+jU false s i)).e)) (acc:=acc++[⟨(one s (i+jU false s i)).k,(Go.Proofs.YtllbpdllkkcajaaGreatDoor.mZ p (sub s i (i+jU false s i))).1,(Go.Proofs.YtllbpdllkkcajaaGreatDoor.mZ p (sub s i (i+jU false s i))).2,(one s (i+jU false s i)).n,(one s (i+jU false s i)).x⟩]) he hT;refine⟨⟨(one s (i+jU false s i)).k,(Go.Proofs.YtllbpdllkkcajaaGreatDoor.mZ p (sub s i (i+jU false s i))).1,(Go.Proofs.YtllbpdllkkcajaaGreatDoor.mZ p (sub s i (i+jU false s i))).2,(one s (i+jU false s i)).n,(one s (i+jU false s i)).x⟩::L,?_,?_⟩
       . rw[hL,List.append_assoc];rfl
       . rw[List.map_cons,hp,o2,o3,o4];rfl
     . cases h
def LX (u:List UInt8) (T:List (Int×Int×List UInt8)):Prop:=T.length<=u.length+1/\∀ m,T.length<=m->Na m u=some T
theorem aeO {s:List UInt8} {T:List (Int×Int×List UInt8)} (h:LX s T):∃ L,bZ s=((0,0,0),L)/\L.map Tok.p=T:=by
 obtain⟨L,h1,h2⟩:=Zu (s.length+1) (s:=s) (i:=0) (p:=(1,1)) (acc:=[]) (Nat.zero_le _) (h.2 _ h.1);exact⟨L,by unfold bZ;rw[h1];rfl,h2⟩
theorem aeR:LX [] [(8,0,[])]:=⟨by decide,fun m hm=>by
 cases m with
 | zero=>simp at hm
 | succ m=>rfl⟩
theorem bW {u:List UInt8} {T:List (Int×Int×List UInt8)} (c:UInt8) (hc:c=32\/c=9\/c=10) (h:LX u T):LX (c::u) T:=by
 refine⟨by have:=h.1;simp;omega,fun m hm=>?_⟩;have:=h.2 m hm;cases m with
 | zero=>exact this
 | succ m=>
   have e:sk false (c::u)=sk false u+1:=by
    rcases hc with rfl | rfl | rfl<;>rfl
   rw[Na,e,List.drop_succ_cons];rw[Na] at this;exact this
theorem Dq {x u:List UInt8} {T:List (Int×Int×List UInt8)} {k n:Int} {t:List UInt8} (hne:x≠[]) (hs:sk false (x++u)=0) (ho:one (x++u) 0=⟨0,k,t,n,x.length⟩) (h:LX u T):LX (x++u) ((k,n,t)::T):=by
 have hx:0<x.length:=List.length_pos_iff.2 hne;refine⟨by have:=h.1;simp;omega,fun m hm=>?_⟩;rw[List.length_cons] at hm;obtain⟨m',rfl⟩:∃ m',m=m'+1:=⟨m - 1,by omega⟩;rw[Na,hs,List.drop_zero,if_neg (by simp[hne]),ho,if_pos rfl];show (Na m' ((x++u).drop x.length)).map _=_;rw[List.drop_left,h.2 m' (by omega)];rfl
def EI (u:List UInt8):Prop:=∀ c r,u=c::r->inB c.toNat=false
theorem abr {p:UInt8->Bool}:∀ {x u:List UInt8},(∀ c∈x,p c=true)->(∀ c r,u=c::r->p c=false)->(x++u).takeWhile p=x
 | [],[],_,_=>rfl
 | [],c::r,_,h=>by rw[List.nil_append,List.takeWhile_cons,h c r rfl];rfl
 | a::x,u,h,h2=>by
   rw[List.cons_append,List.takeWhile_cons,h a (by simp)];simp only[if_true];rw[abr (fun c hc=>h c (by simp[hc])) h2]
theorem Q5 {p:Int->Bool} {x u:List UInt8} (h1:∀ c∈x,p c.toNat=true) (h2:∀ c r,u=c::r->p c.toNat=false):rn p (x++u) 0=x.length:=by
 unfold rn;rw[List.drop_zero,abr h1 h2]
theorem Jv (x u:List UInt8):sub (x++u) 0 x.length=x:=by unfold sub;rw[List.take_left,List.drop_zero]
theorem uq {x:List UInt8} (u:List UInt8) (h:x≠[]):bt (x++u) 0=bt x 0:=zD x u (List.length_pos_iff.2 h)
theorem yf {x:List UInt8} (h:skP (bt x 0) (UA (bt x 0) false)=false) (hne:x≠[]) (u:List UInt8):sk false (x++u)=0:=by
 cases x with
 | nil=>exact absurd rfl hne
 | cons c x=>
   rw[fO] at h;rw[List.cons_append,sk,h];rfl
theorem aaZ {x:List UInt8} (h:jh (bt x 0)≠0):skP (bt x 0) (UA (bt x 0) false)=false:=by
 unfold jh at h;unfold skP UA;generalize bt x 0=b at *;have:b≠35/\b≠32/\b≠9/\b≠13/\b≠10:=by
  refine⟨?_,?_,?_,?_,?_⟩<;>(intro e;subst e;exact absurd rfl h)
 simp[this]
theorem af0 {x:List UInt8} (h:jh (bt x 0)≠0):x≠[]:=fun e=>by subst e;exact h rfl
theorem IR {x u:List UInt8} {T:List (Int×Int×List UInt8)} (hk:jh (bt x 0)=1\/jh (bt x 0)=2) (hx:∀ c∈x,inB c.toNat=true) (hu:EI u) (h:LX u T):LX (x++u) ((kS (bt x 0) x,0,x)::T):=by
 have h0:jh (bt x 0)≠0:=by omega
 have hne:=af0 h0;refine Dq hne (yf (aaZ h0) hne u) ?_ h;unfold one;rw[uq u hne,if_pos hk,Nat.zero_add,Q5 hx hu,Jv]
theorem afZ {b:Int} (h:inB b=false):jh b≠1/\jh b≠2/\jh b≠3:=by
 unfold inB at h;rw[decide_eq_false_iff_not] at h;omega
theorem aez {u:List UInt8} (hu:EI u):∀ c r,u=c::r->kY c.toNat=false:=fun c r e=>by
 have:=afZ (hu c r e);unfold kY;rw[decide_eq_false_iff_not];exact this.2.2
theorem aeQ {d u:List UInt8} {T:List (Int×Int×List UInt8)} {n:Int} (hne:d≠[]) (hd:∀ c∈d,kY c.toNat=true) (hv:(pv (strip d)).2=0) (hn:(pv (strip d)).1=n) (hmax:n<=9223372036854775807) (hu:EI u) (h:LX u T):LX (d++u) ((3,n,[])::T):=by
 have h3:jh (bt d 0)=3:=by
  cases d with
  | nil=>exact absurd rfl hne
  | cons c d=>have:=hd c (by simp);rw[fO];simpa[kY] using this
 refine Dq hne (yf (aaZ (by omega)) hne u) ?_ h;unfold one nm;rw[uq u hne,if_neg (by omega),if_pos h3,Nat.zero_add,Q5 hd (aez hu)];have e0:rn inB (d++u) d.length=0:=by
  unfold rn;rw[List.drop_left];cases u with
  | nil=>rfl
  | cons c u=>rw[List.takeWhile_cons,hu c u rfl];rfl
 rw[e0,if_pos rfl,Jv];unfold qc;rw[if_pos ⟨hv,by omega⟩,hn]
theorem acw {d u:List UInt8} {T:List (Int×Int×List UInt8)} {n:Int} (hne:d≠[]) (hd:∀ c∈d,kY c.toNat=true) (hv:(pv (strip d)).2=0) (hn:(pv (strip d)).1=n) (hmax:n<=8388607) (hu:EI u) (h:LX u T):LX (d++[105]++u) ((4,n,[])::T):=by
 have h3:jh (bt d 0)=3:=by
  cases d with
  | nil=>exact absurd rfl hne
  | cons c d=>have:=hd c (by simp);rw[fO];simpa[kY] using this
 have hb:bt (d++[105]) 0=bt d 0:=uq _ hne;refine Dq (by simp) (yf (by rw[hb];exact aaZ (by omega)) (by simp) u) ?_ h;unfold one nm;have er:rn kY (d++[105]++u) 0=d.length:=by
  rw[List.append_assoc];exact Q5 hd (fun c r e=>by cases e;decide)
 rw[uq u (by simp),hb,if_neg (by omega),if_pos h3,Nat.zero_add,er];have e0:rn inB (d++[105]++u) d.length=1:=by
  unfold rn;rw[List.append_assoc,List.drop_left,List.cons_append,List.nil_append,List.takeWhile_cons,show inB ((105:UInt8).toNat:Int)=true by decide];cases u with
  | nil=>rfl
  | cons c u=>rw[List.takeWhile_cons,hu c u rfl];rfl
 have e1:bt (d++[105]++u) d.length=105:=by
  have:=ou (d++[105]++u) d.length 0;rw[Nat.add_zero] at this;rw[<- this,List.append_assoc,List.drop_left];rfl
 have e2:sub (d++[105]++u) 0 d.length=d:=by rw[List.append_assoc];exact Jv _ _
 rw[e0,if_neg (by decide),e1,if_pos ⟨rfl,rfl⟩,e2];unfold qc;rw[if_pos ⟨hv,by omega⟩,hn,List.length_append];rfl
theorem IU {x u:List UInt8} {T:List (Int×Int×List UInt8)} (hk:jh (bt x 0)=0) (h34:bt x 0≠34) (hb:skP (bt x 0) (UA (bt x 0) false)=false) (hne:x≠[]) (hs:sg (x++u)=x) (h:LX u T):LX (x++u) ((7,0,x)::T):=by
 refine Dq hne (yf hb hne u) ?_ h;unfold one;rw[uq u hne,if_neg (by omega),if_neg (by omega),if_neg h34,List.drop_zero,hs,if_neg hne,Nat.zero_add]
theorem Yo (m:Nat) (h:m<10):lV (dg m)=true/\(dg m).toNat=48+m:=by
 have:(dg m).toNat=48+m:=by simp[dg];omega
 refine⟨?_,this⟩;simp[lV,this];omega
theorem Yp (k:Nat):∀ (m:Nat) (t:List UInt8),0<k->m<10 ^ k->∃ d,dgo k m t=d++t/\d.all lV=true/\nT d=m/\d≠[]/\(m≠0->d.head?≠some 48)/\(m=0->d=[48]):=by
 induction k with
 | zero=>intro m t h;omega
 | succ k ih=>
   intro m t _ hm;rw[dgo];by_cases h10:m<10
   . rw[if_pos h10];obtain⟨h1,h2⟩:=Yo m h10;refine⟨[dg m],rfl,by simp[h1],?_,by simp,fun h0=>?_,fun h0=>by subst h0;rfl⟩
     . rw[Ho,h2];simp[nT]
     . simp only[List.head?_cons,ne_eq,Option.some.injEq];intro e;rw[e] at h2;have:(48:UInt8).toNat=48:=rfl;omega
   . rw[if_neg h10];have hk:0<k:=by
      cases k with
      | zero=>simp at hm;omega
      | succ k=>omega
     obtain⟨d,e1,e2,e3,e4,e5,e6⟩:=ih (m / 10) (dg (m % 10)::t) hk (by rw[Nat.pow_succ] at hm;omega);obtain⟨h1,h2⟩:=Yo (m % 10) (by omega);refine⟨d++[dg (m % 10)],by rw[e1];simp,by rw[List.all_append,e2];simp[h1],?_,by simp,fun _=>?_,fun h0=>by omega⟩
     . rw[Hq,e3,h2];omega
     . have:=e5 (by omega);cases d with
       | nil=>exact absurd rfl e4
       | cons x d=>simpa using this
theorem sO (m:Nat) (h:m<=9223372036854775808):(dec m).all lV=true/\nT (dec m)=m/\dec m≠[]/\(m≠0->(dec m).head?≠some 48)/\(m=0->dec m=[48]):=by
 obtain⟨d,e1,e2,e3,e4,e5,e6⟩:=Yp 20 m [] (by omega) (by omega);rw[List.append_nil] at e1;unfold dec;rw[e1];exact⟨e2,e3,e4,e5,e6⟩
theorem aaJ (m:Nat) (h:m<=9223372036854775807):strip (dec m)=dec m/\pv (dec m)=((m:Int),0):=by
 obtain⟨d1,d2,d3,d4,d5⟩:=sO m (by omega);have hv:rV false (dec m)=((m:Int),0):=by
  unfold rV;rw[if_pos d1,if_neg (by decide),if_pos (by omega),d2]
 generalize dec m=d at *;cases d with
 | nil=>exact absurd rfl d3
 | cons c t=>
   have hc:lV c=true:=by simp only[List.all_cons,Bool.and_eq_true] at d1;exact d1.1
   have h45:¬ c=45:=by intro e;subst e;revert hc;decide
   have h48:¬ (c=48/\t≠[]):=by
    rintro⟨rfl,ht⟩;by_cases hz:m=0
    . have:=d5 hz;simp at this;exact ht this
    . exact d4 hz rfl
   refine⟨?_,by simp only[pv,if_neg h45,if_neg h48];exact hv⟩;cases t with
   | nil=>rfl
   | cons a t=>
     rw[strip,if_neg];intro e;refine h48 ⟨?_,by simp⟩;exact UInt8.toNat_inj.1 e
theorem Dc {c:UInt8} (h:lV c=true):kY c.toNat=true:=by
 unfold lV at h;simp only[Bool.and_eq_true,decide_eq_true_eq] at h;unfold kY jh;rw[decide_eq_true_eq];have:=c.toNat_lt;rw[if_neg (by omega),if_neg (by omega),if_pos (by omega)]
theorem aeS {n:Int} {u:List UInt8} {T:List (Int×Int×List UInt8)} (h0:0<=n) (h1:n<=9223372036854775807) (hu:EI u) (h:LX u T):LX (txt n++u) ((3,n,[])::T):=by
 obtain⟨d1,d2,d3,_,_⟩:=sO n.natAbs (by omega);obtain⟨p1,p2⟩:=aaJ n.natAbs (by omega);unfold txt;rw[if_neg (by omega)];exact aeQ d3 (fun c hc=>Dc (List.all_eq_true.1 d1 c hc)) (by rw[p1,p2]) (by rw[p1,p2];simp;omega) (by omega) hu h
theorem acx {n:Int} {u:List UInt8} {T:List (Int×Int×List UInt8)} (h0:0<=n) (h1:n<=8388607) (hu:EI u) (h:LX u T):LX (txt n++[105]++u) ((4,n,[])::T):=by
 obtain⟨d1,d2,d3,_,_⟩:=sO n.natAbs (by omega);obtain⟨p1,p2⟩:=aaJ n.natAbs (by omega);unfold txt;rw[if_neg (by omega)];exact acw d3 (fun c hc=>Dc (List.all_eq_true.1 d1 c hc)) (by rw[p1,p2]) (by rw[p1,p2];simp;omega) h1 hu h
theorem adh (m:Nat) (pre:List UInt8) (c:UInt8) (post acc:List UInt8) (hp:post≠[]):rdA (m+1) (pre++(qb c++post)) pre.length acc=rdA m (pre++(qb c++post)) (pre.length+(qb c).length) (acc++[c]):=by
 have hbt:∀ j,bt (pre++(qb c++post)) (pre.length+j)=bt (qb c++post) j:=fun j=>by rw[<- ou,List.drop_left]
 have h0:=hbt 0;rw[Nat.add_zero] at h0;have hpl:0<post.length:=List.length_pos_iff.2 hp;have hcl:=c.toNat_lt;have hub:∀ n:Int,n=c.toNat->ub n=c:=fun n e=>by
  subst e;unfold ub;simp
 rw[rdA];simp only[h0,hbt,List.length_append];unfold qb;have e34:(c=34)↔c.toNat=34:=⟨fun e=>by subst e;rfl,fun e=>UInt8.toNat_inj.1 e⟩;have e92:(c=92)↔c.toNat=92:=⟨fun e=>by subst e;rfl,fun e=>UInt8.toNat_inj.1 e⟩;have e10:(c=10)↔c.toNat=10:=⟨fun e=>by subst e;rfl,fun e=>UInt8.toNat_inj.1 e⟩;have e9:(c=9)↔c.toNat=9:=⟨fun e=>by subst e;rfl,fun e=>UInt8.toNat_inj.1 e⟩;by_cases c1:c=34\/c=92
 . rw[if_pos c1];have hv:(c.toNat:Int)=34\/(c.toNat:Int)=92:=by
    rcases c1 with h | h
    . left;rw[e34.1 h];rfl
    . right;rw[e92.1 h];rfl
   simp only[List.cons_append,List.nil_append,fO,wV,List.length_cons,List.length_nil];rw[show ((92:UInt8).toNat:Int)=92 from rfl];rw[if_neg (by omega),if_neg (by decide),if_neg (by decide),if_neg (by omega),if_pos hv,hub _ rfl]
 rw[if_neg c1];have n34:c.toNat≠34:=fun e=>c1 (.inl (e34.2 e))
 have n92:c.toNat≠92:=fun e=>c1 (.inr (e92.2 e))
 by_cases c2:c=10
 . subst c2;simp only[if_true,List.cons_append,List.nil_append,fO,wV,List.length_cons,List.length_nil];rw[show ((92:UInt8).toNat:Int)=92 from rfl,show ((110:UInt8).toNat:Int)=110 from rfl];rw[if_neg (by omega),if_neg (by decide),if_neg (by decide),if_neg (by omega),if_neg (by decide),if_pos rfl]
 rw[if_neg c2];have n10:c.toNat≠10:=fun e=>c2 (e10.2 e)
 by_cases c3:c=9
 . subst c3;simp only[if_true,List.cons_append,List.nil_append,fO,wV,List.length_cons,List.length_nil];rw[show ((92:UInt8).toNat:Int)=92 from rfl,show ((116:UInt8).toNat:Int)=116 from rfl];rw[if_neg (by omega),if_neg (by decide),if_neg (by decide),if_neg (by omega),if_neg (by decide),if_neg (by decide),if_pos rfl]
 rw[if_neg c3];by_cases c4:c.toNat<32\/126<c.toNat
 . rw[if_pos c4];have hxd:∀ n:Nat,n<16->((qb.hxd n).toNat:Int)=(if n<10 then 48+n else 87+n:Nat)/\hx ((qb.hxd n).toNat:Int)=n:=by
    intro n hn;unfold qb.hxd;split
    . rename_i h;have:(UInt8.ofNat (48+n)).toNat=48+n:=by simp;omega
      rw[this];refine⟨rfl,?_⟩;unfold hx;rw[if_pos (by omega)];omega
    . rename_i h;have:(UInt8.ofNat (87+n)).toNat=87+n:=by simp;omega
      rw[this];refine⟨rfl,?_⟩;unfold hx;rw[if_neg (by omega),if_pos (by omega)];omega
   obtain⟨_,x1⟩:=hxd (c.toNat / 16) (by omega);obtain⟨_,x2⟩:=hxd (c.toNat % 16) (by omega);have hbt2:=hbt 2;have hbt3:=hbt 3;simp only[List.cons_append,List.nil_append,fO,wV,List.length_cons,List.length_nil];rw[show ((92:UInt8).toNat:Int)=92 from rfl,show ((120:UInt8).toNat:Int)=120 from rfl,x1,x2];rw[if_neg (by omega),if_neg (by decide),if_neg (by decide),if_neg (by omega),if_neg (by decide),if_neg (by decide),if_neg (by decide),if_pos rfl,if_pos ⟨by omega,by omega,by omega⟩,hub _ (by omega)]
 . rw[if_neg c4];simp only[List.cons_append,List.nil_append,fO,List.length_cons,List.length_nil];rw[if_neg (by omega),if_neg (by omega),if_pos (by omega),hub _ rfl]
theorem NK:∀ (x:List UInt8) (m:Nat) (pre u acc:List UInt8),x.length<m->rdA m (pre++(x.flatMap qb++34::u)) pre.length acc=some (acc++x,pre.length+(x.flatMap qb).length+1)
 | [],m,pre,u,acc,hm=>by
   obtain⟨m',rfl⟩:∃ m',m=m'+1:=⟨m - 1,by omega⟩;have hb:bt (pre++34::u) pre.length=34:=by
    have:=ou (pre++34::u) pre.length 0;rw[Nat.add_zero] at this;rw[<- this,List.drop_left];rfl
   rw[List.flatMap_nil,List.nil_append,rdA,hb,if_neg (by rw[List.length_append,List.length_cons];omega),if_pos rfl,List.append_nil];rfl
 | c::x,m,pre,u,acc,hm=>by
   obtain⟨m',rfl⟩:∃ m',m=m'+1:=⟨m - 1,by omega⟩;rw[List.flatMap_cons,List.append_assoc,adh m' pre c _ acc (by simp)];rw[<- List.append_assoc,<- List.length_append];rw[NK x m' (pre++qb c) u (acc++[c]) (by simp at hm;omega)];simp only[List.append_assoc,List.cons_append,List.nil_append,List.length_append];congr 2;omega
theorem afj (c:UInt8):1<=(qb c).length:=by
 unfold qb;split
 . simp
 . split
   . simp
   . split
     . simp
     . split<;>simp
theorem aeH (x:List UInt8):x.length<=(x.flatMap qb).length:=by
 induction x with
 | nil=>simp
 | cons c x ih=>rw[List.flatMap_cons,List.length_append,List.length_cons];have:=afj c;omega
theorem adi (x u:List UInt8):Bg (quo x++u)=some (x,(quo x).length):=by
 unfold Bg quo;have e:(34::(x.flatMap qb++[34]))++u=[34]++(x.flatMap qb++34::u):=by simp
 rw[e,if_neg (by simp[bt])];have:=NK x (([34]++(x.flatMap qb++34::u)).length) [34] u [] (by have:=aeH x;simp only[List.length_append,List.length_cons,List.length_nil];omega);rw[List.length_singleton] at this;rw[this];simp;omega
theorem aeU {x u:List UInt8} {T:List (Int×Int×List UInt8)} (h:LX u T):LX (quo x++u) ((5,0,x)::T):=by
 have hb:bt (quo x) 0=34:=by unfold quo;rw[fO];rfl
 refine Dq (by unfold quo;simp) (yf (by rw[hb];decide) (by unfold quo;simp) u) ?_ h;unfold one;rw[uq u (by unfold quo;simp),hb,if_neg (by decide),if_neg (by decide),if_pos rfl,List.drop_zero,adi];simp
theorem afq {c:UInt8} (hc:c∈([43,45,42,47,37,40,41,123,125,91,93,44,59,58,46]:List UInt8)) (u:List UInt8):sg ([c]++u)=[c]:=by
 simp only[List.mem_cons,List.not_mem_nil,or_false] at hc;rcases hc with rfl | rfl | rfl | rfl | rfl | rfl | rfl | rfl | rfl | rfl | rfl | rfl | rfl | rfl | rfl<;>simp[sg,dQ,List.isPrefixOf]
theorem afr {c:UInt8} (hc:c∈([60,62,33,61]:List UInt8)) {u:List UInt8} (hu:∀ r,u≠61::r):sg ([c]++u)=[c]:=by
 have h61:∀ v:List UInt8,([61]:List UInt8).isPrefixOf u=false:=fun _=>by
  cases u with
  | nil=>rfl
  | cons a u=>
    have:a≠61:=fun e=>hu u (by rw[e])
    simp[List.isPrefixOf,Ne.symm this]
 have h61:=h61 [];simp only[List.mem_cons,List.not_mem_nil,or_false] at hc;rcases hc with rfl | rfl | rfl | rfl<;>simp[sg,dQ,List.isPrefixOf,h61]
theorem afp {x:List UInt8} (hx:x∈([[38,38],[124,124],[61,61],[33,61],[60,61],[62,61]]:List (List UInt8))) (u:List UInt8):sg (x++u)=x:=by
 simp only[List.mem_cons,List.not_mem_nil,or_false] at hx;rcases hx with rfl | rfl | rfl | rfl | rfl | rfl<;>simp[sg,dQ,List.isPrefixOf]
theorem dJ {c:UInt8} (hc:c∈([43,45,42,47,37,40,41,123,125,91,93,44,59,58,46]:List UInt8)) {u:List UInt8} {T:List (Int×Int×List UInt8)} (h:LX u T):LX (c::u) ((7,0,[c])::T):=by
 have hh:∀ c:UInt8,c∈([43,45,42,47,37,40,41,123,125,91,93,44,59,58,46]:List UInt8)->jh (bt [c] 0)=0/\bt [c] 0≠34/\skP (bt [c] 0) (UA (bt [c] 0) false)=false:=by decide
 obtain⟨h1,h2,h3⟩:=hh c hc;exact IU h1 h2 h3 (by simp) (afq hc u) h
theorem Qw {c:UInt8} (hc:c∈([60,62,33,61]:List UInt8)) {u:List UInt8} {T:List (Int×Int×List UInt8)} (hu:∀ r,u≠61::r) (h:LX u T):LX (c::u) ((7,0,[c])::T):=by
 have hh:∀ c:UInt8,c∈([60,62,33,61]:List UInt8)->jh (bt [c] 0)=0/\bt [c] 0≠34/\skP (bt [c] 0) (UA (bt [c] 0) false)=false:=by decide
 obtain⟨h1,h2,h3⟩:=hh c hc;exact IU h1 h2 h3 (by simp) (afr hc hu) h
theorem aeP {x:List UInt8} (hx:x∈([[38,38],[124,124],[61,61],[33,61],[60,61],[62,61]]:List (List UInt8))) {u:List UInt8} {T:List (Int×Int×List UInt8)} (h:LX u T):LX (x++u) ((7,0,x)::T):=by
 have hh:∀ x:List UInt8,x∈([[38,38],[124,124],[61,61],[33,61],[60,61],[62,61]]:List (List UInt8))->jh (bt x 0)=0/\bt x 0≠34/\skP (bt x 0) (UA (bt x 0) false)=false/\x≠[]:=by decide
 obtain⟨h1,h2,h3,h4⟩:=hh x hx;exact IU h1 h2 h3 h4 (afp hx u) h
abbrev T3:=Int×Int×List UInt8
def sT (x:List UInt8):T3:=(7,0,x)
def rJ (b:Bool) (s:List T3):List T3:=if b then sT [40]::(s++[sT [41]]) else s
def nG:Tr->List T3
 | .nd k _ _ _ x ks=>if k=15 then [(6,0,yC)] else if k=16 then [(6,0,qy)] else if k=17 then [(6,0,AC)] else if k=18 then [(6,0,uh)] else if k=19 then [(2,0,x)] else
   match ks with
   | t::_=>sT [91]::(nG t++[sT [93]])
   | []=>[]
mutual
def dG:Tr->List T3
 | .nd k _ _ n x ks=>
   if k=21 then [(3,n,[])]
   else if k=22 then [(4,n,[])]
   else if k=23 then [(5,0,x)]
   else if k=24 then [(6,0,if n=1 then jq else gz)]
   else if k=25 then [(6,0,oh)]
   else if k=26 then [(1,0,x)]
   else if k=27 then (1,0,x)::sT [40]::(EQ ks++[sT [41]])
   else if k=28 then (match ks with | a::b::_=>rJ (decide (a.lv<8)) (dG a)++(sT [91]::(dG b++[sT [93]])) | _=>[])
   else if k=29 then (match ks with | a::_=>rJ (decide (a.lv<8)) (dG a)++[sT [46],(1,0,x)] | _=>[])
   else if k=30 then (match ks with | a::_=>sT [if n=12 then 45 else 33]::rJ (decide (a.lv<7)) (dG a) | _=>[])
   else if k=31 then (match ks with | a::b::_=>rJ (decide (a.lv<xJ (jT n).2)) (dG a)++(sT (jT n).1::rJ (decide (b.lv<(jT n).2+1)) (dG b)) | _=>[])
   else if k=32 then (match ks with | a::bs=>(6,0,dX)::(nG a++(sT [40]::(EQ bs++[sT [41]]))) | _=>[])
   else []
def EQ:List Tr->List T3
 | []=>[]
 | t::ts=>dG t++Au ts
def Au:List Tr->List T3
 | []=>[]
 | t::ts=>sT [44]::(dG t++Au ts)
end
section
variable (l c n:Int) (x:List UInt8)
theorem Bq (ks:List Tr):dG (.nd 27 l c n x ks)=(1,0,x)::sT [40]::(EQ ks++[sT [41]]):=by rw[dG.eq_def];simp
theorem yw (a b:Tr):dG (.nd 28 l c n x [a,b])=rJ (decide (a.lv<8)) (dG a)++(sT [91]::(dG b++[sT [93]])):=by rw[dG.eq_def];simp
theorem Jz (a:Tr):dG (.nd 29 l c n x [a])=rJ (decide (a.lv<8)) (dG a)++[sT [46],(1,0,x)]:=by rw[dG.eq_def];simp
theorem UO (a:Tr):dG (.nd 30 l c n x [a])=sT [if n=12 then 45 else 33]::rJ (decide (a.lv<7)) (dG a):=by rw[dG.eq_def];simp
theorem Jy (a b:Tr):dG (.nd 31 l c n x [a,b])=rJ (decide (a.lv<xJ (jT n).2)) (dG a)++(sT (jT n).1::rJ (decide (b.lv<(jT n).2+1)) (dG b)):=by rw[dG.eq_def];simp
theorem oO (a:Tr) (bs:List Tr):dG (.nd 32 l c n x (a::bs))=(6,0,dX)::(nG a++(sT [40]::(EQ bs++[sT [41]]))):=by rw[dG.eq_def];simp
end
theorem bU {c:UInt8} (h:inB c.toNat=false) (u:List UInt8):EI (c::u):=fun a r e=>by cases e;exact h
theorem lM {x u:List UInt8} {T:List T3} (hk:jh (bt x 0)=1) (hx:∀ c∈x,inB c.toNat=true) (hw:jd x=true) (hu:EI u) (h:LX u T):LX (x++u) ((6,0,x)::T):=by
 have:=IR (.inl hk) hx hu h;unfold kS at this;rw[if_neg (by omega),if_pos hw] at this;exact this
theorem pX {x u:List UInt8} {T:List T3} (hx:rG x) (hu:EI u) (h:LX u T):LX (x++u) ((1,0,x)::T):=by
 have:=IR (.inl hx.1) hx.2.1 hu h;unfold kS at this;rw[if_neg (by rw[hx.1];decide),if_neg (by rw[hx.2.2.1];decide)] at this;exact this
theorem Dp {x u:List UInt8} {T:List T3} (hx:sF x) (hu:EI u) (h:LX u T):LX (x++u) ((2,0,x)::T):=by
 have:=IR (.inr hx.1) hx.2.1 hu h;unfold kS at this;rw[if_pos hx.1] at this;exact this
theorem Dn {b:Bool} {s u:List UInt8} {S T:List T3} (hs:∀ {u:List UInt8} {T:List T3},EI u->LX u T->LX (s++u) (S++T)) (hu:EI u) (h:LX u T):LX (brk b s++u) (rJ b S++T):=by
 cases b with
 | false=>exact hs hu h
 | true=>
   unfold brk rJ;simp only[if_true,List.cons_append,List.append_assoc,List.nil_append];exact dJ (by decide) (hs (bU (by decide) _) (dJ (by decide) h))
theorem Bd {t:Tr} (w:yK t):∀ {u:List UInt8} {T:List T3},EI u->LX u T->LX (kK t++u) (nG t++T):=by
 induction w with
 | word k l c hk=>
   intro u T hu h;obtain⟨k1,k2⟩:=hk;rcases (by omega:k=15\/k=16\/k=17\/k=18) with rfl | rfl | rfl | rfl
   . exact lM (x:=yC) (by decide) (by decide) (by decide) hu h
   . exact lM (x:=qy) (by decide) (by decide) (by decide) hu h
   . exact lM (x:=AC) (by decide) (by decide) (by decide) hu h
   . exact lM (x:=uh) (by decide) (by decide) (by decide) hu h
 | big l c x hx=>
   intro u T hu h;exact Dp hx hu h
 | list l c t _ ih=>
   intro u T hu h;have e1:kK (.nd 20 l c 0 [] [t])++u=91::(kK t++(93::u)):=by simp[kK]
   have e2:nG (.nd 20 l c 0 [] [t])++T=sT [91]::(nG t++(sT [93]::T)):=by simp[nG]
   rw[e1,e2];exact dJ (by decide) (ih (bU (by decide) _) (dJ (by decide) h))
theorem adE {t:Tr} (w:jC t):∀ (u r:List UInt8),tx t++u≠61::r:=by
 have kd:∀ {x u r:List UInt8},(jh (bt x 0)≠0)->x++u≠61::r:=by
  intro x u r h e;cases x with
  | nil=>exact h rfl
  | cons c x=>cases e;exact h rfl
 have num:∀ {n:Int} {u r:List UInt8},0<=n->n<=9223372036854775807->txt n++u≠61::r:=by
  intro n u r h0 h1;obtain⟨d1,_,d3,_,_⟩:=sO n.natAbs (by omega);unfold txt;rw[if_neg (by omega)];refine kd ?_;generalize dec n.natAbs=d at *;cases d with
  | nil=>exact absurd rfl d3
  | cons c d=>
    have:=Dc (List.all_eq_true.1 d1 c (by simp));rw[fO];unfold kY at this;rw[decide_eq_true_eq] at this;omega
 have brk':∀ {b:Bool} {s u r:List UInt8},(∀ u r,s++u≠61::r)->brk b s++u≠61::r:=by
  intro b s u r h;cases b with
  | false=>exact h u r
  | true=>intro e;cases e
 have dots:∀ {b:Bool} {s v u r:List UInt8},(∀ u r,s++u≠61::r)->(brk b s++v)++u≠61::r:=by
  intro b s v u r h;rw[List.append_assoc];exact brk' h
 refine jC.rec (motive_1:=fun t _=>∀ (u r:List UInt8),tx t++u≠61::r) (motive_2:=fun _ _=>True) ?_ ?_ ?_ ?_ ?_ ?_ ?_ ?_ ?_ ?_ ?_ ?_ ?_ ?_ ?_ w
 . intro l c n h u r;exact num h.1 h.2
 . intro l c n h u r;have:=num (n:=n) (u:=105::u) (r:=r) h.1 (by omega);simpa[tx] using this
 . intro l c x _ u r e;cases e
 . intro l c n h u r;rcases h with rfl | rfl
   . intro e;cases e
   . intro e;cases e
 . intro l c u r e;cases e
 . intro l c x h u r;rw[JD];exact kd (by rw[h.1];decide)
 . intro l c x h ks _ _ u r;rw[Bz,List.append_assoc];exact kd (by rw[h.1];decide)
 . intro l c a b _ _ ia _ u r;rw[yA];exact dots ia
 . intro l c x _ a _ ia u r;rw[JC];exact dots ia
 . intro l c n h a _ _ u r;rcases h with rfl | rfl
   . intro e;cases e
   . intro e;cases e
 . intro l c n _ a b _ _ ia _ u r;rw[JB];exact dots ia
 . intro l c l' c' x _ u r e;cases e
 . intro l c l' c' t _ b _ _ u r e;cases e
 . trivial
 . intro t ts _ _ _ _;trivial
theorem Uz (n:Int):(jT n).1∈([[38,38],[124,124],[61,61],[33,61],[60,61],[62,61]]:List (List UInt8))\/(∃ c,(jT n).1=[c]/\c∈([43,45,42,47,37,40,41,123,125,91,93,44,59,58,46]:List UInt8))\/(∃ c,(jT n).1=[c]/\c∈([60,62,33,61]:List UInt8)):=by
 unfold jT;by_cases c15:n=15
 . rw[if_pos c15];left;decide
 rw[if_neg c15];by_cases c14:n=14
 . rw[if_pos c14];left;decide
 rw[if_neg c14];by_cases c6:n=6
 . rw[if_pos c6];left;decide
 rw[if_neg c6];by_cases c7:n=7
 . rw[if_pos c7];left;decide
 rw[if_neg c7];by_cases c8:n=8
 . rw[if_pos c8];right;right;exact⟨_,rfl,by decide⟩
 rw[if_neg c8];by_cases c9:n=9
 . rw[if_pos c9];left;decide
 rw[if_neg c9];by_cases c10:n=10
 . rw[if_pos c10];right;right;exact⟨_,rfl,by decide⟩
 rw[if_neg c10];by_cases c11:n=11
 . rw[if_pos c11];left;decide
 rw[if_neg c11];by_cases c1:n=1
 . rw[if_pos c1];right;left;exact⟨_,rfl,by decide⟩
 rw[if_neg c1];by_cases c2:n=2
 . rw[if_pos c2];right;left;exact⟨_,rfl,by decide⟩
 rw[if_neg c2];by_cases c3:n=3
 . rw[if_pos c3];right;left;exact⟨_,rfl,by decide⟩
 rw[if_neg c3];by_cases c4:n=4
 . rw[if_pos c4];right;left;exact⟨_,rfl,by decide⟩
 rw[if_neg c4];right;left;exact⟨_,rfl,by decide⟩
theorem aeT (n:Int) {u:List UInt8} {T:List T3} (h:LX (32::u) T):LX ((jT n).1++(32::u)) (sT (jT n).1::T):=by
 rcases Uz n with h1 | ⟨c,e,hc⟩ | ⟨c,e,hc⟩
 . exact aeP h1 h
 . rw[e];exact dJ hc h
 . rw[e];exact Qw hc (fun r e=>by cases e) h
theorem mM {t:Tr} (w:jC t):∀ {u:List UInt8} {T:List T3},EI u->LX u T->LX (tx t++u) (dG t++T):=by
 refine jC.rec (motive_1:=fun t _=>∀ {u:List UInt8} {T:List T3},EI u->LX u T->LX (tx t++u) (dG t++T)) (motive_2:=fun ts _=>(∀ {u:List UInt8} {T:List T3},EI u->LX u T->LX (Et ts++u) (Au ts++T))/\(∀ {u:List UInt8} {T:List T3},EI u->LX u T->LX (rY ts++u) (EQ ts++T))) ?_ ?_ ?_ ?_ ?_ ?_ ?_ ?_ ?_ ?_ ?_ ?_ ?_ ?_ ?_ w
 . intro l c n h u T hu hT;exact aeS h.1 h.2 hu hT
 . intro l c n h u T hu hT;have:=acx (n:=n) h.1 h.2 hu hT;simpa[tx,dG] using this
 . intro l c x _ u T _ hT;exact aeU hT
 . intro l c n h u T hu hT;rcases h with rfl | rfl
   . exact lM (x:=gz) (by decide) (by decide) (by decide) hu hT
   . exact lM (x:=jq) (by decide) (by decide) (by decide) hu hT
 . intro l c u T hu hT;exact lM (x:=oh) (by decide) (by decide) (by decide) hu hT
 . intro l c x h u T hu hT;exact pX h hu hT
 . intro l c x h ks _ ih u T hu hT;have e1:tx (.nd 27 l c 0 x ks)++u=x++(40::(rY ks++(41::u))):=by rw[Bz];simp
   have e2:dG (.nd 27 l c 0 x ks)++T=(1,0,x)::sT [40]::(EQ ks++(sT [41]::T)):=by rw[Bq];simp
   rw[e1,e2];exact pX h (bU (by decide) _) (dJ (by decide) (ih.2 (bU (by decide) _) (dJ (by decide) hT)))
 . intro l c a b _ _ ia ib u T hu hT;have e1:tx (.nd 28 l c 0 [] [a,b])++u=brk (decide (a.lv<8)) (tx a)++(91::(tx b++(93::u))):=by rw[yA];simp
   have e2:dG (.nd 28 l c 0 [] [a,b])++T=rJ (decide (a.lv<8)) (dG a)++(sT [91]::(dG b++(sT [93]::T))):=by rw[yw];simp
   rw[e1,e2];exact Dn ia (bU (by decide) _) (dJ (by decide) (ib (bU (by decide) _) (dJ (by decide) hT)))
 . intro l c x hx a _ ia u T hu hT;have e1:tx (.nd 29 l c 0 x [a])++u=brk (decide (a.lv<8)) (tx a)++(46::(x++u)):=by rw[JC];simp
   have e2:dG (.nd 29 l c 0 x [a])++T=rJ (decide (a.lv<8)) (dG a)++(sT [46]::(1,0,x)::T):=by rw[Jz];simp
   rw[e1,e2];exact Dn ia (bU (by decide) _) (dJ (by decide) (pX hx hu hT))
 . intro l c n h a wa ia u T hu hT;have e1:tx (.nd 30 l c n [] [a])++u=(if n=12 then 45 else 33)::(brk (decide (a.lv<7)) (tx a)++u):=by rw[abt];simp
   have e2:dG (.nd 30 l c n [] [a])++T=sT [if n=12 then 45 else 33]::(rJ (decide (a.lv<7)) (dG a)++T):=by rw[UO];simp
   rw[e1,e2];have hin:=Dn (b:=decide (a.lv<7)) ia hu hT;rcases h with rfl | rfl
   . exact dJ (by decide) hin
   . refine Qw (c:=33) (by decide) (fun r=>?_) hin;by_cases hb:a.lv<7
     . rw[show decide (a.lv<7)=true by simpa using hb];intro e;cases e
     . rw[show decide (a.lv<7)=false by simpa using hb];exact adE wa u r
 . intro l c n _ a b _ _ ia ib u T hu hT;have e1:tx (.nd 31 l c n [] [a,b])++u=brk (decide (a.lv<xJ (jT n).2)) (tx a)++(32::((jT n).1++(32::(brk (decide (b.lv<(jT n).2+1)) (tx b)++u)))):=by rw[JB];simp
   have e2:dG (.nd 31 l c n [] [a,b])++T=rJ (decide (a.lv<xJ (jT n).2)) (dG a)++(sT (jT n).1::(rJ (decide (b.lv<(jT n).2+1)) (dG b)++T)):=by rw[Jy];simp
   rw[e1,e2];exact Dn ia (bU (by decide) _) (bW 32 (.inl rfl) (aeT n (bW 32 (.inl rfl) (Dn ib hu hT))))
 . intro l c l' c' x hx u T hu hT;have e1:tx (.nd 32 l c 0 [] [.nd 19 l' c' 0 x []])++u=dX++(32::(x++(40::41::u))):=by rw[uV];simp[kK,rY]
   have e2:dG (.nd 32 l c 0 [] [.nd 19 l' c' 0 x []])++T=(6,0,dX)::(2,0,x)::sT [40]::sT [41]::T:=by rw[oO];simp[nG,EQ]
   rw[e1,e2];exact lM (by decide) (by decide) (by decide) (bU (by decide) _) (bW 32 (.inl rfl) (Dp hx (bU (by decide) _) (dJ (by decide) (dJ (by decide) hT))))
 . intro l c l' c' t wt b _ ib u T hu hT;have e1:tx (.nd 32 l c 0 [] [.nd 20 l' c' 0 [] [t],b])++u=dX++(32::(kK (.nd 20 l' c' 0 [] [t])++(40::(tx b++(41::u))))):=by rw[uV];simp[rY,Et]
   have e2:dG (.nd 32 l c 0 [] [.nd 20 l' c' 0 [] [t],b])++T=(6,0,dX)::(nG (.nd 20 l' c' 0 [] [t])++(sT [40]::(dG b++(sT [41]::T)))):=by rw[oO];simp[EQ,Au]
   rw[e1,e2];exact lM (by decide) (by decide) (by decide) (bU (by decide) _) (bW 32 (.inl rfl) (Bd (.list l' c' t wt) (bU (by decide) _) (dJ (by decide) (ib (bU (by decide) _) (dJ (by decide) hT)))))
 . exact⟨fun _ h=>h,fun _ h=>h⟩
 . intro t ts _ _ it its;refine⟨fun {u T} hu hT=>?_,fun {u T} hu hT=>?_⟩
   . have e1:Et (t::ts)++u=44::32::(tx t++(Et ts++u)):=by simp[Et]
     have e2:Au (t::ts)++T=sT [44]::(dG t++(Au ts++T)):=by simp[Au]
     rw[e1,e2];refine dJ (by decide) (bW 32 (.inl rfl) (it ?_ (its.1 hu hT)));cases ts with
     | nil=>exact hu
     | cons a ts=>exact bU (by decide) _
   . have e1:rY (t::ts)++u=tx t++(Et ts++u):=by simp[rY]
     have e2:EQ (t::ts)++T=dG t++(Au ts++T):=by simp[EQ]
     rw[e1,e2];refine it ?_ (its.1 hu hT);cases ts with
     | nil=>exact hu
     | cons a ts=>exact bU (by decide) _
def Ev {α:Type} (f:Nat->Option α) (r:α):Prop:=∃ N,∀ n,N<=n->f n=some r
theorem Ev.of {α:Type} {f:Nat->Option α} {r:α} (N:Nat) (h:∀ n,N<=n->f n=some r):Ev f r:=⟨N,h⟩
theorem Ev.succ {α:Type} {f g:Nat->Option α} {r:α} (h:Ev g r) (hf:∀ n,f (n+1)=g n):Ev f r:=by
 obtain⟨N,hN⟩:=h;refine⟨N+1,fun n hn=>?_⟩;obtain⟨m,rfl⟩:∃ m,n=m+1:=⟨n - 1,by omega⟩;rw[hf,hN m (by omega)]
theorem Ev.bind {α β:Type} {f:Nat->Option α} {g:Nat->α->Option β} {a:α} {r:β} (h:Ev f a) (hg:Ev (fun n=>g n a) r):Ev (fun n=>(f n).bind (g n)) r:=by
 obtain⟨N,hN⟩:=h;obtain⟨M,hM⟩:=hg;refine⟨N+M,fun n hn=>?_⟩;simp only[hN n (by omega),Option.bind_some];exact hM n (by omega)
theorem Ev.map {α β:Type} {f:Nat->Option α} {g:α->β} {a:α} (h:Ev f a):Ev (fun n=>(f n).map g) (g a):=by
 obtain⟨N,hN⟩:=h;exact⟨N,fun n hn=>by simp only[hN n hn,Option.map_some]⟩
theorem Ev.const {α:Type} (r:α):Ev (fun _=>some r) r:=⟨0,fun _ _=>rfl⟩
def bV (L:List Tok) (a:Nat) (T:List T3):Prop:=(L.drop a).map Tok.p=T
def gs (a:Nat) (d:Int):PS:=⟨a,d,(0,0,0)⟩
section
variable {L:List Tok} {a:Nat} {d:Int} {k n:Int} {x:List UInt8} {T:List T3}
theorem bV.hd (h:bV L a ((k,n,x)::T)):(tk L (gs a d)).k=k/\(tk L (gs a d)).n=n/\(tk L (gs a d)).x=x/\bV L (a+1) T:=by
 unfold bV at h⊢;have hlt:a<L.length:=by
  have:=congrArg List.length h;rw[List.length_map,List.length_drop,List.length_cons] at this;omega
 rw[List.drop_eq_getElem_cons hlt,List.map_cons] at h;injection h with h1 h2
 have e:tk L (gs a d)=L[a]:=by
  unfold Go.Proofs.YtllbpdllkkcajaaGreatDoor.tk gs;rw[List.getD_eq_getElem?_getD,List.getElem?_eq_getElem hlt];rfl
 rw[e];unfold Tok.p at h1;injection h1 with h3 h4
 injection h4 with h4 h5
 exact⟨h3,h4,h5,h2⟩
theorem bV.app {S:List T3} (h:bV L a (S++T)):bV L (a+S.length) T:=by
 unfold bV at h⊢;rw[<- List.drop_drop,List.map_drop,h,List.drop_left]
theorem dI:(gs a d).bad=false:=rfl
theorem bV.is (h:bV L a ((k,n,x)::T)) (s:List UInt8):dm L s (gs a d)=((k==6||k==7)&&x==s):=by
 obtain⟨h1,_,h3,_⟩:=h.hd (d:=d);unfold dm;rw[dI,h1,h3];rfl
theorem bV.yes (h:bV L a (sT x::T)):dm L x (gs a d)=true:=by rw[h.is];simp
theorem bV.word {n:Int} (h:bV L a ((6,n,x)::T)):dm L x (gs a d)=true:=by rw[h.is];simp
theorem bV.pass (h:bV L a ((k,n,x)::T)) (h8:k≠8):bF L (gs a d)=gs (a+1) d:=by
 unfold bF;rw[(h.hd).1,if_neg h8];rfl
theorem bV.must (h:bV L a (sT x::T)):bC L x (gs a d)=gs (a+1) d:=by
 unfold bC;rw[h.yes,if_pos rfl,h.pass (by decide)]
theorem bV.opens (h:bV L a (sT x::T)) (hd:d+1<=40):dE L x (gs a d)=gs (a+1) (d+1):=by
 unfold dE;have e:(gs a d).d=d:=rfl;rw[h.yes,e,show (d==40)=false by rw[beq_eq_false_iff_ne];omega];simp only[Bool.and_false];rw[if_neg (by decide),h.must];rfl
theorem bV.shut (h:bV L a (sT x::T)):dw L x (gs a (d+1))=gs (a+1) d:=by
 unfold dw;rw[h.must];show gs (a+1) (d+1 - 1)=_;rw[Int.add_sub_cancel]
theorem bV.wd (h:bV L a ((k,n,x)::T)) (h8:k≠8):gK L k (gs a d)=gs (a+1) d:=by
 unfold gK;rw[dI,(h.hd).1,if_neg (by simp),h.pass h8]
end
def Stp (lvl:Nat) (T:List T3):Prop:=∃ k n x T',T=(k,n,x)::T'/\(k=8\/(k=7/\x≠[91]/\x≠[46]/\x≠[40]/\(GI x).2<lvl))
def NoC (T:List T3):Prop:=∃ k n x T',T=(k,n,x)::T'/\(k=8\/(k=7/\x≠[40]))
theorem Stp.noc {lvl:Nat} {T:List T3} (h:Stp lvl T):NoC T:=by
 obtain⟨k,n,x,T',e,h⟩:=h;exact⟨k,n,x,T',e,h.imp id fun h=>⟨h.1,h.2.2.2.1⟩⟩
theorem Stp.mono {lvl m:Nat} {T:List T3} (h:Stp lvl T) (hm:lvl<=m):Stp m T:=by
 obtain⟨k,n,x,T',e,h⟩:=h;exact⟨k,n,x,T',e,h.imp id fun h=>⟨h.1,h.2.1,h.2.2.1,h.2.2.2.1,by omega⟩⟩
theorem gy {x:List UInt8} {T:List T3} {lvl:Nat} (h:x≠[91]/\x≠[46]/\x≠[40]/\(GI x).2<lvl):Stp lvl (sT x::T):=⟨7,0,x,T,rfl,.inr ⟨rfl,h⟩⟩
theorem Stp.op {L:List Tok} {a:Nat} {d:Int} {T:List T3} {lvl m:Nat} (h:Stp lvl T) (hm:lvl<=m) (hT:bV L a T):Nv L m (gs a d)=0:=by
 obtain⟨k,n,x,T',rfl,h⟩:=h;obtain⟨h1,_,h3,_⟩:=hT.hd (d:=d);unfold Nv;rw[dI,h1,h3];rcases h with rfl | ⟨rfl,_,_,_,h⟩
 . rfl
 . rw[if_neg (by decide),if_neg (by omega)]
theorem Stp.post {L:List Tok} {a:Nat} {d:Int} {T:List T3} {lvl:Nat} (h:Stp lvl T) (hT:bV L a T) (x:Tr) (n:Nat):iM L (n+1) x (gs a d)=some (x,gs a d):=by
 obtain⟨k,m,y,T',rfl,h⟩:=h;rw[iM,hT.is,hT.is];rcases h with rfl | ⟨rfl,h1,h2,_,_⟩
 . rfl
 . rw[if_neg (by simp[h1]),if_neg (by simp[h2])]
theorem xu {t:Tr} (w:yK t):∀ {L:List Tok} {a:Nat} {d:Int} {T:List T3},bV L a (nG t++T)->(XC t:Int)+d<=40->∃ t',t'.bare=t.bare/\Ev (fun n=>fD L n (gs a d)) (t',gs (a+(nG t).length) d):=by
 induction w with
 | word k l c hk=>
   intro L a d T h _;obtain⟨k1,k2⟩:=hk;rcases (by omega:k=15\/k=16\/k=17\/k=18) with rfl | rfl | rfl | rfl
   . have h':bV L a ((6,0,yC)::T):=h;refine⟨nd 15 (tk L (gs a d)) 0 [] [],rfl,.of 1 fun n hn=>?_⟩;obtain⟨m,rfl⟩:∃ m,n=m+1:=⟨n - 1,by omega⟩;simp only[fD];rw[dI,if_neg (by decide),h'.word,if_pos rfl,h'.pass (by decide)];rfl
   . have h':bV L a ((6,0,qy)::T):=h;refine⟨nd 16 (tk L (gs a d)) 0 [] [],rfl,.of 1 fun n hn=>?_⟩;obtain⟨m,rfl⟩:∃ m,n=m+1:=⟨n - 1,by omega⟩;simp only[fD];rw[dI,if_neg (by decide),h'.is yC,if_neg (by decide),h'.word,if_pos rfl,h'.pass (by decide)];rfl
   . have h':bV L a ((6,0,AC)::T):=h;refine⟨nd 17 (tk L (gs a d)) 0 [] [],rfl,.of 1 fun n hn=>?_⟩;obtain⟨m,rfl⟩:∃ m,n=m+1:=⟨n - 1,by omega⟩;simp only[fD];rw[dI,if_neg (by decide),h'.is yC,if_neg (by decide),h'.is qy,if_neg (by decide),h'.word,if_pos rfl,h'.pass (by decide)];rfl
   . have h':bV L a ((6,0,uh)::T):=h;refine⟨nd 18 (tk L (gs a d)) 0 [] [],rfl,.of 1 fun n hn=>?_⟩;obtain⟨m,rfl⟩:∃ m,n=m+1:=⟨n - 1,by omega⟩;simp only[fD];rw[dI,if_neg (by decide),h'.is yC,if_neg (by decide),h'.is qy,if_neg (by decide),h'.is AC,if_neg (by decide),h'.word,if_pos rfl,h'.pass (by decide)];rfl
 | big l c x hx=>
   intro L a d T h _;have h':bV L a ((2,0,x)::T):=h;obtain⟨h1,h2,h3,h4⟩:=h'.hd (d:=d);refine⟨nd 19 (tk L (gs a d)) 0 (tk L (gs a d)).x [],by rw[h3];rfl,.of 1 fun n hn=>?_⟩;obtain⟨m,rfl⟩:∃ m,n=m+1:=⟨n - 1,by omega⟩;simp only[fD];rw[dI,if_neg (by decide),h'.is yC,if_neg (by simp),h'.is qy,if_neg (by simp),h'.is AC,if_neg (by simp),h'.is uh,if_neg (by simp),h1,if_pos rfl,h'.pass (by decide)];rfl
 | list l c t wt ih=>
   intro L a d T h hd;have e2:nG (.nd 20 l c 0 [] [t])=sT [91]::(nG t++[sT [93]]):=by simp[nG]
   have e3:XC (.nd 20 l c 0 [] [t])=XC t+1:=by simp[XC]
   rw[e2] at h⊢;rw[e3] at hd;have h':bV L a (sT [91]::(nG t++(sT [93]::T))):=by simpa using h
   have h1:=(h'.hd (d:=d)).2.2.2;obtain⟨t',hb,hE⟩:=ih h1 (d:=d+1) (by omega);have h2:=h1.app;refine⟨nd 20 (tk L (gs a d)) 0 [] [t'],by simp[nd,Tr.bare,bH,hb],?_⟩;refine Ev.succ (g:=fun n=>(fD L n (gs (a+1) (d+1))).map fun r=>(nd 20 (tk L (gs a d)) 0 [] [r.1],dw L [93] r.2)) ?_ fun n=>?_
   . have:=hE.map (g:=fun r=>(nd 20 (tk L (gs a d)) 0 [] [r.1],dw L [93] r.2));simp only[h2.shut] at this;rw[show a+(sT [91]::(nG t++[sT [93]])).length=a+1+(nG t).length+1 by simp;omega];exact this
   . rw[fD,dI,if_neg (by decide),h'.is yC,if_neg (by decide),h'.is qy,if_neg (by decide),h'.is AC,if_neg (by decide),h'.is uh,if_neg (by decide),(h'.hd).1,if_neg (by decide),h'.yes,if_pos rfl,h'.opens (by omega)]
section
variable (L:List Tok) (S:List T3) (a:Nat) (d:Int) (b:Tr)
def PF:Prop:=∃ t':Tr,t'.bare=b/\∀ r,Ev (fun n=>iM L n t' (gs (a+S.length) d)) r->Ev (fun n=>(eH L n (gs a d)).bind fun r=>iM L n r.1 r.2) r
def DF (lvl:Nat):Prop:=∃ t':Tr,t'.bare=b/\Ev (fun n=>dW L n lvl (gs a d)) (t',gs (a+S.length) d)
def LF (lvl:Nat):Prop:=∃ t':Tr,t'.bare=b/\∀ r,Ev (fun n=>jc L n lvl t' (gs (a+S.length) d)) r->Ev (fun n=>dW L n lvl (gs a d)) r
end
section
variable {L:List Tok} {S T:List T3} {a:Nat} {d:Int} {b:Tr} {lvl:Nat}
theorem ab7 (hT:bV L a T) (hs:Stp lvl T) {m:Nat} (hm:lvl<=m) (t:Tr):Ev (fun n=>jc L n m t (gs a d)) (t,gs a d):=.of 1 fun n hn=>by
 obtain⟨k,rfl⟩:∃ k,n=k+1:=⟨n - 1,by omega⟩;simp only[jc];rw[if_pos (hs.op hm hT)]
theorem LF.of (h6:lvl<=6) (h:DF L S a d b (lvl+1)):LF L S a d b lvl:=by
 obtain⟨t',hb,hE⟩:=h;refine⟨t',hb,fun r hr=>?_⟩;refine Ev.succ (g:=fun n=>(dW L n (lvl+1) (gs a d)).bind fun r=>jc L n lvl r.1 r.2) (hE.bind hr) fun n=>?_
 rw[dW,if_neg (by omega)]
theorem DF.of (hT:bV L (a+S.length) T) (hs:Stp lvl T) (h:LF L S a d b lvl):DF L S a d b lvl:=by
 obtain⟨t',hb,hE⟩:=h;exact⟨t',hb,hE _ (ab7 hT hs (Nat.le_refl _) t')⟩
theorem DF.down (hT:bV L (a+S.length) T) {m:Nat} (hm:m<=7) (h:Stp m T->DF L S a d b m):∀ j lvl,lvl+j=m->Stp lvl T->DF L S a d b lvl
 | 0,lvl,e,hs=>by
   obtain rfl:lvl=m:=by omega
   exact h hs
 | j+1,lvl,e,hs=>DF.of hT hs (LF.of (by omega) (DF.down hT hm h j (lvl+1) (by omega) (hs.mono (by omega))))
theorem DF.seven (hT:bV L (a+S.length) T) (hs:Stp lvl T) (h45:dm L [45] (gs a d)=false) (h33:dm L [33] (gs a d)=false) (h:PF L S a d b):DF L S a d b 7:=by
 obtain⟨t',hb,hE⟩:=h;refine⟨t',hb,?_⟩;have h1:=hE (t',gs (a+S.length) d) (.of 1 fun n hn=>by
  obtain⟨k,rfl⟩:∃ k,n=k+1:=⟨n - 1,by omega⟩;exact hs.post hT t' k)
 have h2:Ev (fun n=>wF L n (gs a d)) (t',gs (a+S.length) d):=Ev.succ h1 fun n=>by rw[wF,h45,if_neg (by decide),h33,if_neg (by decide)]
 exact Ev.succ h2 fun n=>by rw[dW,if_pos (by decide)]
theorem afR {r:Tr×PS} (h:Ev (fun n=>dW L n 7 (gs a d)) r):Ev (fun n=>wF L n (gs a d)) r:=by
 obtain⟨N,hN⟩:=h;refine⟨N,fun n hn=>?_⟩;have:dW L (n+1) 7 (gs a d)=some r:=hN (n+1) (by omega);rw[dW,if_pos (by decide)] at this;exact this
theorem XN {n:Nat} (h:bV L a (sT [40]::T)):eH L (n+1) (gs a d)=(dW L n 1 (dE L [40] (gs a d))).map fun r=>(r.1,dw L [41] r.2):=by
 have hk:=(h.hd (d:=d)).1;rw[eH,dI,if_neg (by decide),hk,if_neg (by decide),if_neg (by decide),if_neg (by decide),h.is jq,if_neg (by decide),h.is gz,if_neg (by decide),h.is oh,if_neg (by decide),if_neg (by decide),h.yes,if_pos rfl]
theorem EU {n:Nat} (h:bV L a ((6,0,dX)::T)):eH L (n+1) (gs a d)=(fD L n (jo L (gs a d))).bind fun r=>
        if r.1.k=20 then (dW L n 1 (dE L [40] r.2)).map fun y=>(nd 32 (tk L (gs a d)) 0 [] [r.1,y.1],dw L [41] y.2)
        else some (nd 32 (tk L (gs a d)) 0 [] [r.1],dw L [41] (dE L [40] r.2)):=by
 have hk:=(h.hd (d:=d)).1;rw[eH,dI,if_neg (by decide),hk,if_neg (by decide),if_neg (by decide),if_neg (by decide),h.is jq,if_neg (by decide),h.is gz,if_neg (by decide),h.is oh,if_neg (by decide),if_neg (by decide),h.is [40],if_neg (by decide),h.word,if_pos rfl]
end
theorem Ei (n:Int):1<=(jT n).2/\(jT n).2<=6:=by
 unfold jT;by_cases c15:n=15
 . rw[if_pos c15];decide
 rw[if_neg c15];by_cases c14:n=14
 . rw[if_pos c14];decide
 rw[if_neg c14];by_cases c6:n=6
 . rw[if_pos c6];decide
 rw[if_neg c6];by_cases c7:n=7
 . rw[if_pos c7];decide
 rw[if_neg c7];by_cases c8:n=8
 . rw[if_pos c8];decide
 rw[if_neg c8];by_cases c9:n=9
 . rw[if_pos c9];decide
 rw[if_neg c9];by_cases c10:n=10
 . rw[if_pos c10];decide
 rw[if_neg c10];by_cases c11:n=11
 . rw[if_pos c11];decide
 rw[if_neg c11];by_cases c1:n=1
 . rw[if_pos c1];decide
 rw[if_neg c1];by_cases c2:n=2
 . rw[if_pos c2];decide
 rw[if_neg c2];by_cases c3:n=3
 . rw[if_pos c3];decide
 rw[if_neg c3];by_cases c4:n=4
 . rw[if_pos c4];decide
 rw[if_neg c4];decide
theorem lv8 (t:Tr):t.lv<=8:=by
 cases t with
 | nd k l c n x ks=>
   have:=Ei n;simp only[Tr.lv];split
   . omega
   . split<;>omega
theorem aeN (n:Int):xJ (jT n).2<=7:=by
 have:=Ei n;unfold xJ;split<;>omega
theorem aek {t:Tr} (w:jC t):∃ k n x S,dG t=(k,n,x)::S/\((k=6\/k=7)->x≠[41])/\(t.lv=8->(k=6\/k=7)->x≠[45]/\x≠[33]):=by
 have brk':∀ {a:Tr} {m:Nat} {S:List T3},m<=8->(∃ k n x S,dG a=(k,n,x)::S/\((k=6\/k=7)->x≠[41])/\(a.lv=8->(k=6\/k=7)->x≠[45]/\x≠[33]))->∃ k n x S',rJ (decide (a.lv<m)) (dG a)++S=(k,n,x)::S'/\((k=6\/k=7)->x≠[41])/\(8<=m->a.lv<=8->(k=6\/k=7)->x≠[45]/\x≠[33]):=by
  rintro a m S hm ⟨k,n,x,S',e,h1,h2⟩;by_cases hl:a.lv<m
  . rw[decide_eq_true hl];exact⟨7,0,[40],_,rfl,fun _=>by decide,fun _ _ _=>by decide⟩
  . rw[decide_eq_false hl];unfold rJ;rw[if_neg (by decide),e];exact⟨k,n,x,_,rfl,h1,fun h3 h4=>h2 (by omega)⟩
 refine jC.rec (motive_1:=fun t _=>∃ k n x S,dG t=(k,n,x)::S/\((k=6\/k=7)->x≠[41])/\(t.lv=8->(k=6\/k=7)->x≠[45]/\x≠[33])) (motive_2:=fun _ _=>True) ?_ ?_ ?_ ?_ ?_ ?_ ?_ ?_ ?_ ?_ ?_ ?_ ?_ ?_ ?_ w
 . intro l c n h;exact⟨3,n,[],[],rfl,fun h=>by omega,fun _ h=>by omega⟩
 . intro l c n h;exact⟨4,n,[],[],rfl,fun h=>by omega,fun _ h=>by omega⟩
 . intro l c x _;exact⟨5,0,x,[],rfl,fun h=>by omega,fun _ h=>by omega⟩
 . intro l c n h;rcases h with rfl | rfl
   . exact⟨6,0,gz,[],rfl,fun _=>by decide,fun _ _=>by decide⟩
   . exact⟨6,0,jq,[],rfl,fun _=>by decide,fun _ _=>by decide⟩
 . intro l c;exact⟨6,0,oh,[],rfl,fun _=>by decide,fun _ _=>by decide⟩
 . intro l c x h;exact⟨1,0,x,[],by rw[dG.eq_def];simp,fun h=>by omega,fun _ h=>by omega⟩
 . intro l c x h ks _ _;exact⟨1,0,x,_,Bq ..,fun h=>by omega,fun _ h=>by omega⟩
 . intro l c a b _ _ ia _;rw[yw];obtain⟨k,n,x,S',e,h1,h2⟩:=brk' (m:=8) (S:=sT [91]::(dG b++[sT [93]])) (by omega) ia;exact⟨k,n,x,S',e,h1,fun _=>h2 (by omega) (lv8 a)⟩
 . intro l c x _ a _ ia;rw[Jz];obtain⟨k,n,y,S',e,h1,h2⟩:=brk' (m:=8) (S:=[sT [46],(1,0,x)]) (by omega) ia;exact⟨k,n,y,S',e,h1,fun _=>h2 (by omega) (lv8 a)⟩
 . intro l c n h a _ _;rw[UO];refine⟨7,0,[if n=12 then 45 else 33],_,rfl,fun _=>?_,fun h=>?_⟩
   . rcases h with rfl | rfl<;>decide
   . have h7:(Tr.nd 30 l c n [] [a]).lv=7:=by simp[Tr.lv]
     omega
 . intro l c n h a b _ _ ia _;rw[Jy];obtain⟨k,m,y,S',e,h1,_⟩:=brk' (m:=xJ (jT n).2) (S:=sT (jT n).1::rJ (decide (b.lv<(jT n).2+1)) (dG b)) (by have:=aeN n;omega) ia;refine⟨k,m,y,S',e,h1,fun h=>?_⟩;have h7:(Tr.nd 31 l c n [] [a,b]).lv=(jT n).2:=by simp[Tr.lv]
   have:=Ei n;omega
 . intro l c l' c' x _;exact⟨6,0,dX,_,oO ..,fun _=>by decide,fun _ _=>by decide⟩
 . intro l c l' c' t _ b _ _;exact⟨6,0,dX,_,oO ..,fun _=>by decide,fun _ _=>by decide⟩
 . trivial
 . intro t ts _ _ _ _;trivial
def Xp (t:Tr):Prop:=∀ (L:List Tok) (a:Nat) (d:Int) (T:List T3),bV L a (dG t++T)->(dp t:Int)+d<=40->
 (t.lv=8->NoC T->PF L (dG t) a d t.bare)/\(∀ lvl,1<=lvl->lvl<=7->lvl<=t.lv->Stp lvl T->DF L (dG t) a d t.bare lvl)/\
 (∀ lvl,(lvl=1\/lvl=2\/lvl=5\/lvl=6)->lvl<=t.lv->Stp (lvl+1) T->LF L (dG t) a d t.bare lvl)
section
variable {L:List Tok} {S T:List T3} {a:Nat} {d:Int} {b:Tr} {lvl:Nat}
theorem PF.all (hT:bV L (a+S.length) T) (h45:dm L [45] (gs a d)=false) (h33:dm L [33] (gs a d)=false) (h:NoC T->PF L S a d b):
 (∀ lvl,1<=lvl->lvl<=7->Stp lvl T->DF L S a d b lvl)/\(∀ lvl,lvl<=6->Stp (lvl+1) T->LF L S a d b lvl):=by
 have h7:Stp 7 T->DF L S a d b 7:=fun hs=>DF.seven hT hs h45 h33 (h hs.noc)
 have hd:∀ lvl,lvl<=7->Stp lvl T->DF L S a d b lvl:=fun lvl hl hs=>DF.down hT (Nat.le_refl 7) h7 (7 - lvl) lvl (by omega) hs
 exact⟨fun lvl _ hl hs=>hd lvl hl hs,fun lvl hl hs=>LF.of hl (hd (lvl+1) (by omega) hs)⟩
theorem afz {t:Tr} (hX:Xp t) (h:bV L a (sT [40]::(dG t++(sT [41]::T)))) (hl:1<=t.lv) (hd:(dp t:Int)+1+d<=40):PF L (rJ true (dG t)) a d t.bare:=by
 have h1:=(h.hd (d:=d)).2.2.2;obtain⟨t',hb,hE⟩:=(hX L (a+1) (d+1) _ h1 (by omega)).2.1 1 (by omega) (by omega) hl (gy (by decide));have h2:=h1.app;refine⟨t',hb,fun r hr=>?_⟩;have hA:Ev (fun n=>eH L n (gs a d)) (t',gs (a+1+(dG t).length+1) d):=by
  refine Ev.succ (g:=fun n=>(dW L n 1 (dE L [40] (gs a d))).map fun r=>(r.1,dw L [41] r.2)) ?_ fun n=>XN h
  rw[h.opens (by omega)];have:=hE.map (g:=fun r=>(r.1,dw L [41] r.2));simp only[h2.shut] at this;exact this
 rw[show a+(rJ true (dG t)).length=a+1+(dG t).length+1 by simp[rJ];omega] at hr;exact hA.bind hr
theorem ED {t:Tr} (_w:jC t) (hX:Xp t) {m:Nat} (h:bV L a (rJ (decide (t.lv<m)) (dG t)++T)) (hl:1<=t.lv) (hd:(XB (decide (t.lv<m)) (dp t):Int)+d<=40):
 (m=8->NoC T->PF L (rJ (decide (t.lv<m)) (dG t)) a d t.bare)/\(1<=m->m<=7->Stp m T->DF L (rJ (decide (t.lv<m)) (dG t)) a d t.bare m)/\((m=1\/m=2\/m=5\/m=6)->Stp (m+1) T->LF L (rJ (decide (t.lv<m)) (dG t)) a d t.bare m):=by
 by_cases hm:t.lv<m
 . rw[decide_eq_true hm] at h hd⊢;have h':bV L a (sT [40]::(dG t++(sT [41]::T))):=by simpa[rJ] using h
   have hP:=afz (d:=d) hX h' hl (by rw[show XB true (dp t)=dp t+1 from rfl] at hd;omega);have hA:=PF.all (T:=T) h.app (by rw[h'.is];decide) (by rw[h'.is];decide) (fun _=>hP);exact⟨fun _ _=>hP,fun h1 h2 h3=>hA.1 m h1 h2 h3,fun h1 h2=>hA.2 m (by omega) h2⟩
 . rw[decide_eq_false hm] at h hd⊢;have h':bV L a (dG t++T):=h;obtain⟨x1,x2,x3⟩:=hX L a d T h' hd;have:=lv8 t;exact⟨fun h1 h2=>x1 (by omega) h2,fun h1 h2 h3=>x2 m h1 h2 (by omega) h3,fun h1 h2=>x3 m h1 (by omega) h2⟩
theorem nV {t:Tr} (w:jC t) (h8:t.lv=8) (h:∀ (L:List Tok) (a:Nat) (d:Int) (T:List T3),bV L a (dG t++T)->(dp t:Int)+d<=40->NoC T->PF L (dG t) a d t.bare):Xp t:=by
 intro L a d T hT hd;obtain⟨k,n,x,S,e,h1,h2⟩:=aek w;have hT':bV L a ((k,n,x)::(S++T)):=by rw[e] at hT;exact hT
 have no:∀ s:List UInt8,(s=[45]\/s=[33])->dm L s (gs a d)=false:=by
  intro s hs;rw[hT'.is,Bool.and_eq_false_iff];by_cases hk:k=6\/k=7
  . right;have:=h2 h8 hk;rw[beq_eq_false_iff_ne];rcases hs with rfl | rfl
    . exact this.1
    . exact this.2
  . left;simp only[Bool.or_eq_false_iff,beq_eq_false_iff_ne];exact⟨fun h=>hk (.inl h),fun h=>hk (.inr h)⟩
 have hA:=PF.all hT.app (no _ (.inl rfl)) (no _ (.inr rfl)) (h L a d T hT hd);exact⟨fun _ hn=>h L a d T hT hd hn,fun lvl l1 l2 _ hs=>hA.1 lvl l1 l2 hs,fun lvl hl _ hs=>hA.2 lvl (by omega) hs⟩
theorem qR {k n:Int} {x:List UInt8} {t':Tr} (_h:bV L a ((k,n,x)::T)) (hb:t'.bare=b) (hA:∀ n,eH L (n+1) (gs a d)=some (t',gs (a+1) d)) (hS:S.length=1):PF L S a d b:=by
 refine⟨t',hb,fun r hr=>?_⟩;rw[hS] at hr;have:Ev (fun n=>eH L n (gs a d)) (t',gs (a+1) d):=.of 1 fun m hm=>by
  obtain⟨j,rfl⟩:∃ j,m=j+1:=⟨m - 1,by omega⟩;exact hA j
 exact this.bind hr
end
def Ys (ts:List Tr):Prop:=∀ (L:List Tok) (a:Nat) (d:Int) (T:List T3),(OE ts:Int)+d<=40->
 (bV L a (Au ts++(sT [41]::T))->∃ ts':List Tr,bH ts'=bH ts/\∀ acc,Ev (fun n=>gY L n false acc (gs a d)) (acc++ts',gs (a+(Au ts).length) d))/\
 (bV L a (EQ ts++(sT [41]::T))->∃ ts':List Tr,bH ts'=bH ts/\Ev (fun n=>gY L n true [] (gs a d)) (ts',gs (a+(EQ ts).length) d))
theorem afA:Ys []:=by
 intro L a d T _;have stop:∀ (h:bV L a (sT [41]::T)) (f:Bool) (acc:List Tr),Ev (fun n=>gY L n f acc (gs a d)) (acc,gs a d):=fun h f acc=>.of 1 fun n hn=>by
  obtain⟨m,rfl⟩:∃ m,n=m+1:=⟨n - 1,by omega⟩;simp only[gY];rw[dI,h.yes,if_pos (by decide)]
 exact⟨fun h=>⟨[],rfl,fun acc=>by simpa[Au] using stop h false acc⟩,fun h=>⟨[],rfl,by simpa[EQ] using stop h true []⟩⟩
theorem aa9 (ts:List Tr) (T:List T3):Stp 1 (Au ts++(sT [41]::T)):=by
 cases ts with
 | nil=>exact gy (by decide)
 | cons t ts=>exact gy (by decide)
theorem qO {t:Tr}:1<=t.lv:=by
 cases t with
 | nd k l c n x ks=>
   have:=Ei n;simp only[Tr.lv];split
   . omega
   . split<;>omega
theorem adM {t:Tr} {ts:List Tr} (w:jC t) (hX:Xp t) (hY:Ys ts):Ys (t::ts):=by
 intro L a d T hd
 have hdt : (dp t : Int) + d ≤ 40 := by have:OE (t::ts)=max (dp t) (OE ts):=by simp[OE]
                                        omega
 have hds : (OE ts : Int) + d ≤ 40 := by  have:OE (t::ts)=max (dp t) (OE ts):=by simp[OE]
                                          omega
 have one:∀ (a:Nat),bV L a (dG t++(Au ts++(sT [41]::T)))->∃ t':Tr,∃ ts':List Tr,t'.bare=t.bare/\bH ts'=bH ts/\∀ acc,Ev (fun n=>(dW L n 1 (gs a d)).bind fun r=>gY L n false (acc++[r.1]) r.2) (acc++t'::ts',gs (a+(dG t).length+(Au ts).length) d):=by
  intro a h;obtain⟨t',hb,hE⟩:=(hX L a d _ h hdt).2.1 1 (by omega) (by omega) qO (aa9 ts T);obtain⟨ts',hbs,hEs⟩:=(hY L (a+(dG t).length) d T hds).1 h.app;refine⟨t',ts',hb,hbs,fun acc=>?_⟩;have:=hE.bind (g:=fun n r=>gY L n false (acc++[r.1]) r.2) (hEs (acc++[t']));simpa using this
 refine⟨fun h=>?_,fun h=>?_⟩
 . have e1:Au (t::ts)=sT [44]::(dG t++Au ts):=by simp[Au]
   rw[e1] at h⊢;have h':bV L a (sT [44]::(dG t++(Au ts++(sT [41]::T)))):=by simpa using h
   have h1:=(h'.hd (d:=d)).2.2.2;obtain⟨t',ts',hb,hbs,hE⟩:=one (a+1) h1;refine⟨t'::ts',by simp[bH,hb,hbs],fun acc=>?_⟩;refine Ev.succ (g:=fun n=>(dW L n 1 (gs (a+1) d)).bind fun r=>gY L n false (acc++[r.1]) r.2) ?_ fun n=>?_
   . rw[show a+(sT [44]::(dG t++Au ts)).length=a+1+(dG t).length+(Au ts).length by simp;omega];exact hE acc
   . rw[gY,dI,h'.is [41],if_neg (by decide),if_neg (by decide),h'.must]
 . have e1:EQ (t::ts)=dG t++Au ts:=by simp[EQ]
   rw[e1] at h⊢;have h':bV L a (dG t++(Au ts++(sT [41]::T))):=by simpa using h
   obtain⟨t',ts',hb,hbs,hE⟩:=one a h';obtain⟨k,n,x,S,e,g1,_⟩:=aek w;have hk:bV L a ((k,n,x)::(S++(Au ts++(sT [41]::T)))):=by rw[e] at h';exact h'
   have h41:dm L [41] (gs a d)=false:=by
    rw[hk.is,Bool.and_eq_false_iff];by_cases hk:k=6\/k=7
    . right;rw[beq_eq_false_iff_ne];exact g1 hk
    . left;simp only[Bool.or_eq_false_iff,beq_eq_false_iff_ne];exact⟨fun h=>hk (.inl h),fun h=>hk (.inr h)⟩
   refine⟨t'::ts',by simp[bH,hb,hbs],?_⟩;refine Ev.succ (g:=fun n=>(dW L n 1 (gs a d)).bind fun r=>gY L n false ([]++[r.1]) r.2) ?_ fun n=>?_
   . rw[show a+(dG t++Au ts).length=a+(dG t).length+(Au ts).length by simp;omega];exact hE []
   . rw[gY,dI,h41,if_neg (by decide),if_pos rfl]
theorem ae3:∀ n:Int,((1<=n/\n<=11)\/n=14\/n=15)->GI (jT n).1=(n,(jT n).2)/\(jT n).1≠[91]/\(jT n).1≠[46]/\(jT n).1≠[40]:=by
 intro n h;rcases (by omega:n=1\/n=2\/n=3\/n=4\/n=5\/n=6\/n=7\/n=8\/n=9\/n=10\/n=11\/n=14\/n=15) with h | h | h | h | h | h | h | h | h | h | h | h | h<;>subst h<;>decide
section
variable (l c n:Int) (x:List UInt8)
theorem ab2 (ks:List Tr):dp (.nd 27 l c n x ks)=OE ks+1:=by rw[dp.eq_def];simp
theorem Yv (a b:Tr):dp (.nd 28 l c n x [a,b])=max (XB (decide (a.lv<8)) (dp a)) (dp b+1):=by rw[dp.eq_def];simp
theorem aeC (a:Tr):dp (.nd 29 l c n x [a])=XB (decide (a.lv<8)) (dp a):=by rw[dp.eq_def];simp
theorem afO (a:Tr):dp (.nd 30 l c n x [a])=XB (decide (a.lv<7)) (dp a)+1:=by rw[dp.eq_def];simp
theorem aeB (a b:Tr):dp (.nd 31 l c n x [a,b])=max (XB (decide (a.lv<xJ (jT n).2)) (dp a)) (XB (decide (b.lv<(jT n).2+1)) (dp b)):=by rw[dp.eq_def];simp
theorem SC (a:Tr) (bs:List Tr):dp (.nd 32 l c n x (a::bs))=max (XC a) (OE bs+1):=by rw[dp.eq_def];simp
end
theorem dR (k:Int) (t:Tok) (n:Int) (x:List UInt8) (ks:List Tr):(nd k t n x ks).bare=.nd k 0 0 n x (bH ks):=rfl
set_option maxHeartbeats 1000000 in
theorem afy {t:Tr} (w:jC t):Xp t:=by
 refine jC.rec (motive_1:=fun t _=>Xp t) (motive_2:=fun ts _=>Ys ts) ?_ ?_ ?_ ?_ ?_ ?_ ?_ ?_ ?_ ?_ ?_ ?_ ?_ ?_ ?_ w
 . intro l c n hn;refine nV (.int l c n hn) rfl fun L a d T h _ _=>?_
   have h':bV L a ((3,n,[])::T):=h;obtain⟨h1,h2,h3,_⟩:=h'.hd (d:=d);refine qR (t':=nd 21 (tk L (gs a d)) (tk L (gs a d)).n [] []) h' (by rw[dR,h2];rfl) (fun n=>?_) rfl;rw[eH,dI,if_neg (by decide),h1,if_pos rfl,h'.pass (by decide)]
 . intro l c n hn;refine nV (.comp l c n hn) rfl fun L a d T h _ _=>?_
   have h':bV L a ((4,n,[])::T):=h;obtain⟨h1,h2,h3,_⟩:=h'.hd (d:=d);refine qR (t':=nd 22 (tk L (gs a d)) (tk L (gs a d)).n [] []) h' (by rw[dR,h2];rfl) (fun n=>?_) rfl;rw[eH,dI,if_neg (by decide),h1,if_neg (by decide),if_pos rfl,h'.pass (by decide)]
 . intro l c x hx0;refine nV (.str l c x hx0) rfl fun L a d T h _ _=>?_
   have h':bV L a ((5,0,x)::T):=h;obtain⟨h1,h2,h3,_⟩:=h'.hd (d:=d);refine qR (t':=nd 23 (tk L (gs a d)) 0 (tk L (gs a d)).x []) h' (by rw[dR,h3];rfl) (fun n=>?_) rfl;rw[eH,dI,if_neg (by decide),h1,if_neg (by decide),if_neg (by decide),if_pos rfl,h'.pass (by decide)]
 . intro l c n hn;refine nV (.bool l c n hn) rfl fun L a d T h _ _=>?_
   rcases hn with rfl | rfl
   . have h':bV L a ((6,0,gz)::T):=h;obtain⟨h1,h2,h3,_⟩:=h'.hd (d:=d);refine qR (t':=nd 24 (tk L (gs a d)) 0 [] []) h' rfl (fun n=>?_) rfl;rw[eH,dI,if_neg (by decide),h1,if_neg (by decide),if_neg (by decide),if_neg (by decide),h'.is jq,if_neg (by decide),h'.word,if_pos rfl,h'.pass (by decide)]
   . have h':bV L a ((6,0,jq)::T):=h;obtain⟨h1,h2,h3,_⟩:=h'.hd (d:=d);refine qR (t':=nd 24 (tk L (gs a d)) 1 [] []) h' rfl (fun n=>?_) rfl;rw[eH,dI,if_neg (by decide),h1,if_neg (by decide),if_neg (by decide),if_neg (by decide),h'.word,if_pos rfl,h'.pass (by decide)]
 . intro l c;refine nV (.nil l c) rfl fun L a d T h _ _=>?_
   have h':bV L a ((6,0,oh)::T):=h;obtain⟨h1,h2,h3,_⟩:=h'.hd (d:=d);refine qR (t':=nd 25 (tk L (gs a d)) 0 [] []) h' rfl (fun n=>?_) rfl;rw[eH,dI,if_neg (by decide),h1,if_neg (by decide),if_neg (by decide),if_neg (by decide),h'.is jq,if_neg (by decide),h'.is gz,if_neg (by decide),h'.word,if_pos rfl,h'.pass (by decide)]
 . intro l c x hx;refine nV (.name l c x hx) rfl fun L a d T h _ hn=>?_
   have e1:dG (.nd 26 l c 0 x [])=[(1,0,x)]:=by rw[dG.eq_def];simp
   rw[e1] at h⊢;have h':bV L a ((1,0,x)::T):=h;obtain⟨h1,h2,h3,h4⟩:=h'.hd (d:=d);refine qR (t':=nd 26 (tk L (gs a d)) 0 (tk L (gs a d)).x []) h' (by rw[dR,h3];rfl) (fun n=>?_) rfl;have hc:dm L [40] (gs (a+1) d)=false:=by
    obtain⟨k,m,y,T',rfl,hk⟩:=hn;rw[h4.is];rcases hk with rfl | ⟨rfl,hy⟩
    . rfl
    . simp[hy]
   rw[eH,dI,if_neg (by decide),h1,if_neg (by decide),if_neg (by decide),if_neg (by decide),h'.is jq,if_neg (by simp),h'.is gz,if_neg (by simp),h'.is oh,if_neg (by simp),if_pos rfl,h'.pass (by decide),hc,if_neg (by decide)]
 . intro l c x hx ks wk hY;refine nV (.call l c x hx ks wk) rfl fun L a d T h hd _=>?_
   rw[ab2] at hd;rw[Bq] at h⊢;have h':bV L a ((1,0,x)::sT [40]::(EQ ks++(sT [41]::T))):=by simpa using h
   obtain⟨h1,h2,h3,h4⟩:=h'.hd (d:=d);have h5:=(h4.hd (d:=d)).2.2.2;obtain⟨ks',hb,hE⟩:=(hY L (a+1+1) (d+1) T (by omega)).2 h5;have h6:=h5.app;refine⟨nd 27 (tk L (gs a d)) 0 (tk L (gs a d)).x ks',by rw[dR,h3,hb];rfl,fun r hr=>?_⟩;have hA:Ev (fun n=>eH L n (gs a d)) (nd 27 (tk L (gs a d)) 0 (tk L (gs a d)).x ks',gs (a+1+1+(EQ ks).length+1) d):=by
    refine Ev.succ (g:=fun n=>(gY L n true [] (gs (a+1+1) (d+1))).map fun r=>(nd 27 (tk L (gs a d)) 0 (tk L (gs a d)).x r.1,dw L [41] r.2)) ?_ fun n=>?_
    . have:=hE.map (g:=fun r=>(nd 27 (tk L (gs a d)) 0 (tk L (gs a d)).x r.1,dw L [41] r.2));simp only[h6.shut] at this;exact this
    . rw[eH,dI,if_neg (by decide),h1,if_neg (by decide),if_neg (by decide),if_neg (by decide),h'.is jq,if_neg (by simp),h'.is gz,if_neg (by simp),h'.is oh,if_neg (by simp),if_pos rfl,h'.pass (by decide),h4.yes,if_pos rfl,h4.opens (by omega)]
   rw[show a+((1,0,x)::sT [40]::(EQ ks++[sT [41]])).length=a+1+1+(EQ ks).length+1 by simp;omega] at hr;exact hA.bind hr
 . intro l c x y wx wy hx hy;refine nV (.index l c x y wx wy) rfl fun L a d T h hd _=>?_
   rw[Yv] at hd;rw[yw] at h⊢;generalize hS:rJ (decide (x.lv<8)) (dG x)=S at *;have h':bV L a (S++(sT [91]::(dG y++(sT [93]::T)))):=by simpa using h
   have ho:=ED (d:=d) wx hx (m:=8) (by rw[hS];exact h') qO (by omega);rw[hS] at ho;obtain⟨x',hbx,hE⟩:=ho.1 rfl ⟨7,0,[91],_,rfl,.inr ⟨rfl,by decide⟩⟩;have h1:=h'.app;have h2:=(h1.hd (d:=d)).2.2.2;obtain⟨y',hby,hEy⟩:=(hy L _ (d+1) _ h2 (by omega)).2.1 1 (by omega) (by omega) qO (gy (by decide));have h3:=h2.app;refine⟨nd 28 (tk L (gs (a+S.length) d)) 0 [] [x',y'],by rw[dR];simp[bH,hbx,hby,Tr.bare],fun r hr=>hE r ?_⟩;rw[show a+(S++(sT [91]::(dG y++[sT [93]]))).length=a+S.length+1+(dG y).length+1 by simp;omega] at hr;refine Ev.succ (g:=fun n=>(dW L n 1 (gs (a+S.length+1) (d+1))).bind fun r=>iM L n (nd 28 (tk L (gs (a+S.length) d)) 0 [] [x',r.1]) (dw L [93] r.2)) ?_ fun n=>?_
   . refine hEy.bind ?_;simp only[h3.shut];exact hr
   . rw[iM,h1.yes,if_pos rfl,h1.opens (by omega)]
 . intro l c y hy x wx hx;refine nV (.dot l c y hy x wx) rfl fun L a d T h hd _=>?_
   rw[aeC] at hd;rw[Jz] at h⊢;generalize hS:rJ (decide (x.lv<8)) (dG x)=S at *;have h':bV L a (S++(sT [46]::(1,0,y)::T)):=by simpa using h
   have ho:=ED (d:=d) wx hx (m:=8) (by rw[hS];exact h') qO hd;rw[hS] at ho;obtain⟨x',hbx,hE⟩:=ho.1 rfl ⟨7,0,[46],_,rfl,.inr ⟨rfl,by decide⟩⟩;have h1:=h'.app;have h2:=(h1.hd (d:=d)).2.2.2;obtain⟨_,_,g3,_⟩:=h2.hd (d:=d);refine⟨nd 29 (tk L (gs (a+S.length) d)) 0 (tk L (gs (a+S.length+1) d)).x [x'],by rw[dR,g3];simp[bH,hbx,Tr.bare],fun r hr=>hE r ?_⟩;rw[show a+(S++[sT [46],(1,0,y)]).length=a+S.length+1+1 by simp;omega] at hr;refine Ev.succ (g:=fun n=>iM L n (nd 29 (tk L (gs (a+S.length) d)) 0 (tk L (gs (a+S.length+1) d)).x [x']) (gs (a+S.length+1+1) d)) hr fun n=>?_
   rw[iM,h1.is [91],if_neg (by decide),h1.yes,if_pos rfl,h1.pass (by decide),h2.wd (by decide)]
 . intro l c n hn x wx hx;intro L a d T h hd;have hlv:(Tr.nd 30 l c n [] [x]).lv=7:=by simp[Tr.lv]
   rw[afO] at hd;rw[UO] at h⊢;generalize hS:rJ (decide (x.lv<7)) (dG x)=S at *;generalize hg:(if n=12 then (45:UInt8) else 33)=g at *;have h':bV L a (sT [g]::(S++T)):=h;have h1:=(h'.hd (d:=d)).2.2.2;have h7:Stp 7 T->DF L (sT [g]::S) a d (Tr.nd 30 l c n [] [x]).bare 7:=by
    intro hs;have ho:=ED wx hx (m:=7) (d:=d+1) (by rw[hS];exact h1) qO (by omega);rw[hS] at ho;obtain⟨x',hbx,hE⟩:=ho.2.1 (by omega) (by omega) hs;have hE:=afR hE;refine⟨nd 30 (tk L (gs a d)) n [] [x'],by rw[dR];simp[bH,hbx,Tr.bare],?_⟩;have hx3:=(h'.hd (d:=d)).2.2.1;have hU:Ev (fun n=>wF L n (gs a d)) (nd 30 (tk L (gs a d)) n [] [x'],gs (a+(sT [g]::S).length) d):=by
     refine Ev.succ (g:=fun m=>(wF L m (gs (a+1) (d+1))).map fun r=>(nd 30 (tk L (gs a d)) n [] [r.1],{ r.2 with d:=r.2.d - 1 })) ?_ fun m=>?_
     . have:=hE.map (g:=fun r=>(nd 30 (tk L (gs a d)) n [] [r.1],{ r.2 with d:=r.2.d - 1 }));rw[show a+(sT [g]::S).length=a+1+S.length by simp;omega];have e:({ gs (a+1+S.length) (d+1) with d:=(gs (a+1+S.length) (d+1)).d - 1 }:PS)=gs (a+1+S.length) d:=by
        show gs (a+1+S.length) (d+1 - 1)=_;rw[Int.add_sub_cancel]
       simp only[e] at this;exact this
     . rcases hn with rfl | rfl
       . rw[if_pos rfl] at hg;subst hg;rw[wF,h'.yes,if_pos rfl,hx3,h'.opens (by omega)]
       . rw[if_neg (by decide)] at hg;subst hg;rw[wF,h'.is [45],if_neg (by decide),h'.yes,if_pos rfl,hx3,h'.opens (by omega)]
    exact Ev.succ hU fun n=>by rw[dW,if_pos (by decide)]
   have hTa:bV L (a+(sT [g]::S).length) T:=by
    rw[show a+(sT [g]::S).length=a+1+S.length by simp;omega];exact h1.app
   have hdn:∀ lvl,lvl<=7->Stp lvl T->DF L (sT [g]::S) a d (Tr.nd 30 l c n [] [x]).bare lvl:=fun lvl hl hs=>DF.down hTa (Nat.le_refl 7) h7 (7 - lvl) lvl (by omega) hs
   exact⟨fun h8=>by omega,fun lvl _ h2 _ hs=>hdn lvl h2 hs,fun lvl hl h2 hs=>LF.of (by omega) (hdn (lvl+1) (by omega) hs)⟩
 . intro l c n hn x y wx wy hx hy;intro L a d T h hd;have hlv:(Tr.nd 31 l c n [] [x,y]).lv=(jT n).2:=by simp[Tr.lv]
   obtain⟨o1,o2,o3,o4⟩:=ae3 n hn;have hsl:=Ei n;rw[aeB] at hd;rw[Jy] at h⊢;generalize hm:(jT n).2=m at *;generalize hg:(jT n).1=g at *;have hn0:n≠0:=by omega
   have kJ:∀ {p:Nat},bV L p (sT g::(rJ (decide (y.lv<m+1)) (dG y)++T))->Nv L m (gs p d)=n:=by
    intro p hp;obtain⟨g1,_,g3,_⟩:=hp.hd (d:=d);unfold Nv;rw[dI,g1,g3,o1,if_neg (by decide),if_pos rfl]
   have h':bV L a (rJ (decide (x.lv<xJ m)) (dG x)++(sT g::(rJ (decide (y.lv<m+1)) (dG y)++T))):=by simpa using h
   have h1:=h'.app;have h2:=(h1.hd (d:=d)).2.2.2;have ho:=ED (d:=d) wx hx (m:=xJ m) h' qO (by omega);have hyo:=ED (d:=d) wy hy (m:=m+1) h2 qO (by omega);generalize hS:rJ (decide (x.lv<xJ m)) (dG x)=S at *;generalize hS2:rJ (decide (y.lv<m+1)) (dG y)=S2 at *;have hlen:a+(S++(sT g::S2)).length=a+S.length+1+S2.length:=by simp;omega
   have hTa:bV L (a+(S++(sT g::S2)).length) T:=by rw[hlen];exact h2.app
   have st1:Stp (m+1) (sT g::(S2++T)):=gy ⟨o2,o3,o4,by rw[o1];omega⟩;by_cases h34:m=3\/m=4
   . have hlf:xJ m=m+1:=by unfold xJ;rw[if_pos h34]
     rw[hlf] at ho;have hM:Stp m T->DF L (S++(sT g::S2)) a d (Tr.nd 31 l c n [] [x,y]).bare m:=by
      intro hs;obtain⟨x',hbx,hEx⟩:=ho.2.1 (by omega) (by omega) st1;obtain⟨y',hby,hEy⟩:=hyo.2.1 (by omega) (by omega) (hs.mono (by omega));refine⟨nd 31 (tk L (gs (a+S.length) d)) n [] [x',y'],by rw[dR];simp[bH,hbx,hby,Tr.bare],?_⟩;refine Ev.succ (g:=fun k=>(dW L k (m+1) (gs a d)).bind fun r=>jc L k m r.1 r.2) (hEx.bind ?_) fun k=>by rw[dW,if_neg (by omega)]
      refine Ev.succ (g:=fun k=>(dW L k (m+1) (gs (a+S.length+1) d)).bind fun r=>some (nd 31 (tk L (gs (a+S.length) d)) n [] [x',r.1],r.2)) ?_ fun k=>?_
      . rw[hlen];exact hEy.bind (.const _)
      . simp only[jc,kJ h1,if_neg hn0,h1.pass (by decide),if_pos h34]
     have hdn:∀ lvl,lvl<=m->Stp lvl T->DF L (S++(sT g::S2)) a d (Tr.nd 31 l c n [] [x,y]).bare lvl:=fun lvl hl hs=>DF.down hTa (by omega) hM (m - lvl) lvl (by omega) hs
     refine⟨fun h8=>by omega,fun lvl _ _ h3 hs=>hdn lvl (by omega) hs,fun lvl hl h3 hs=>?_⟩;exact LF.of (by omega) (hdn (lvl+1) (by omega) hs)
   . have hlf:xJ m=m:=by unfold xJ;rw[if_neg h34]
     rw[hlf] at ho;have hM:Stp (m+1) T->LF L (S++(sT g::S2)) a d (Tr.nd 31 l c n [] [x,y]).bare m:=by
      intro hs;obtain⟨x',hbx,hEx⟩:=ho.2.2 (by omega) st1;obtain⟨y',hby,hEy⟩:=hyo.2.1 (by omega) (by omega) hs;refine⟨nd 31 (tk L (gs (a+S.length) d)) n [] [x',y'],by rw[dR];simp[bH,hbx,hby,Tr.bare],fun r hr=>hEx r ?_⟩;rw[hlen] at hr;refine Ev.succ (g:=fun k=>(dW L k (m+1) (gs (a+S.length+1) d)).bind fun r=>jc L k m (nd 31 (tk L (gs (a+S.length) d)) n [] [x',r.1]) r.2) ?_ fun k=>?_
      . exact hEy.bind hr
      . simp only[jc,kJ h1,if_neg hn0,h1.pass (by decide),if_neg h34]
     have hdn:∀ lvl,lvl<=m->Stp lvl T->DF L (S++(sT g::S2)) a d (Tr.nd 31 l c n [] [x,y]).bare lvl:=fun lvl hl hs=>DF.down hTa (by omega) (fun hs=>DF.of hTa hs (hM (hs.mono (by omega)))) (m - lvl) lvl (by omega) hs
     refine⟨fun h8=>by omega,fun lvl _ _ h3 hs=>hdn lvl (by omega) hs,fun lvl hl h3 hs=>?_⟩;by_cases e:lvl=m
     . subst e;exact hM hs
     . exact LF.of (by omega) (hdn (lvl+1) (by omega) hs)
 . intro l c l' c' x hx;refine nV (.make l c l' c' x hx) rfl fun L a d T h hd _=>?_
   have e1:dG (.nd 32 l c 0 [] [.nd 19 l' c' 0 x []])=[(6,0,dX),(2,0,x),sT [40],sT [41]]:=by rw[oO];simp[nG,EQ]
   rw[SC] at hd;rw[e1] at h⊢;have h':bV L a ((6,0,dX)::(2,0,x)::sT [40]::sT [41]::T):=h;have h1:=(h'.hd (d:=d)).2.2.2;obtain⟨g1,_,g3,h2⟩:=h1.hd (d:=d);have h3:=(h2.hd (d:=d)).2.2.2;have hk:bV L (a+1) (nG (.nd 19 l' c' 0 x [])++(sT [40]::sT [41]::T)):=h1;obtain⟨k',hbk,hE⟩:=xu (.big l' c' x hx) hk (d:=d) (by omega);have hph:jo L (gs a d)=gs (a+1) d:=by
    unfold jo;rw[h'.pass (by decide),g1,if_neg (by simp)]
   have hkk:k'.k=19:=by
    have:=congrArg Tr.k hbk;cases k' with
    | nd k l c n x ks=>exact this
   refine⟨nd 32 (tk L (gs a d)) 0 [] [k'],by rw[dR];simp[bH,hbk,Tr.bare],fun r hr=>?_⟩;have hA:Ev (fun n=>eH L n (gs a d)) (nd 32 (tk L (gs a d)) 0 [] [k'],gs (a+1+1+1+1) d):=by
    refine Ev.succ ?_ fun n=>EU h'
    rw[hph];refine hE.bind ?_;have hl:(nG (.nd 19 l' c' 0 x [])).length=1:=rfl;have hd1:d+1<=40:=by have:OE []=0:=rfl;omega
    simp only[hkk,hl,h2.opens hd1,h3.shut];exact .const _
   exact hA.bind hr
 . intro l c l' c' t wt y wy hy;refine nV (.makes l c l' c' t wt y wy) rfl fun L a d T h hd _=>?_
   have wk:=yK.list l' c' t wt;generalize hK:Tr.nd 20 l' c' 0 [] [t]=K at *;have hKk:K.k=20:=by rw[<- hK];rfl
   have hKt:∃ S,nG K=sT [91]::S:=by rw[<- hK];exact⟨_,by simp[nG];rfl⟩
   have e1:dG (.nd 32 l c 0 [] [K,y])=(6,0,dX)::(nG K++(sT [40]::(dG y++[sT [41]]))):=by rw[oO];simp[EQ,Au]
   rw[SC] at hd;have hdy:OE [y]=dp y:=by simp[OE]
   rw[hdy] at hd;rw[e1] at h⊢;have h':bV L a ((6,0,dX)::(nG K++(sT [40]::(dG y++(sT [41]::T))))):=by simpa using h
   have h1:=(h'.hd (d:=d)).2.2.2;obtain⟨k',hbk,hE⟩:=xu wk h1 (d:=d) (by omega);have h2:=h1.app;have h3:=(h2.hd (d:=d)).2.2.2;obtain⟨y',hby,hEy⟩:=(hy L _ (d+1) _ h3 (by omega)).2.1 1 (by omega) (by omega) qO (gy (by decide));have h4:=h3.app;have hph:jo L (gs a d)=gs (a+1) d:=by
    obtain⟨S,e⟩:=hKt;rw[e] at h1;have h1':bV L (a+1) (sT [91]::(S++(sT [40]::(dG y++(sT [41]::T))))):=h1;unfold jo;rw[h'.pass (by decide),h1'.yes,if_neg (by simp)]
   have hkk:k'.k=20:=by
    have:=congrArg Tr.k hbk;rw[show K.bare.k=K.k by cases K;rfl,hKk] at this;cases k' with
    | nd k l c n x ks=>exact this
   refine⟨nd 32 (tk L (gs a d)) 0 [] [k',y'],by rw[dR];simp[bH,hbk,hby,Tr.bare],fun r hr=>?_⟩;have hA:Ev (fun n=>eH L n (gs a d)) (nd 32 (tk L (gs a d)) 0 [] [k',y'],gs (a+1+(nG K).length+1+(dG y).length+1) d):=by
    refine Ev.succ ?_ fun n=>EU h'
    rw[hph];refine hE.bind ?_;simp only[hkk,if_true,h2.opens (show d+1<=40 by omega)];have:=hEy.map (g:=fun r=>(nd 32 (tk L (gs a d)) 0 [] [k',r.1],dw L [41] r.2));simp only[h4.shut] at this;exact this
   rw[show a+((6,0,dX)::(nG K++(sT [40]::(dG y++[sT [41]])))).length=a+1+(nG K).length+1+(dG y).length+1 by simp;omega] at hr;exact hA.bind hr
 . exact afA
 . intro t ts wt _ ht hs;exact adM wt ht hs
section
variable {L:List Tok}
theorem pV:∀ {n m:Nat} {p:PS} {r:Tr×PS},n<=m->fD L n p=some r->fD L m p=some r
 | 0,_,_,_,_,h=>by cases h
 | n+1,0,_,_,hm,_=>by omega
 | n+1,m+1,p,r,hm,h=>by
   rw[fD] at h⊢;split at h
   . rename_i c;rw[if_pos c];exact h
   rename_i c;rw[if_neg c];clear c;split at h
   . rename_i c;rw[if_pos c];exact h
   rename_i c;rw[if_neg c];clear c;split at h
   . rename_i c;rw[if_pos c];exact h
   rename_i c;rw[if_neg c];clear c;split at h
   . rename_i c;rw[if_pos c];exact h
   rename_i c;rw[if_neg c];clear c;split at h
   . rename_i c;rw[if_pos c];exact h
   rename_i c;rw[if_neg c];clear c;split at h
   . rename_i c;rw[if_pos c];exact h
   rename_i c;rw[if_neg c];clear c;split at h
   . rename_i c;rw[if_pos c];simp only[Option.map_eq_some_iff] at h⊢;obtain⟨x,h1,h2⟩:=h;exact⟨x,pV (by omega) h1,h2⟩
   . rename_i c;rw[if_neg c];exact h
def afE (L:List Tok) (n m:Nat):Prop:=
 (∀ lvl p r,dW L n lvl p=some r->dW L m lvl p=some r)/\(∀ lvl x p r,jc L n lvl x p=some r->jc L m lvl x p=some r)/\(∀ p r,wF L n p=some r->wF L m p=some r)/\
 (∀ x p r,iM L n x p=some r->iM L m x p=some r)/\(∀ p r,eH L n p=some r->eH L m p=some r)/\(∀ f acc p r,gY L n f acc p=some r->gY L m f acc p=some r)
theorem TY:∀ {n m:Nat},n<=m->afE L n m
 | 0,_,_=>⟨fun _ _ _ h=>(by cases h),fun _ _ _ _ h=>(by cases h),fun _ _ h=>(by cases h),fun _ _ _ h=>(by cases h),fun _ _ h=>(by cases h),fun _ _ _ _ h=>(by cases h)⟩
 | n+1,0,h=>by omega
 | n+1,m+1,hm=>by
   obtain⟨i1,i2,i3,i4,i5,i6⟩:=TY (n:=n) (m:=m) (by omega);refine⟨fun lvl p r h=>?_,fun lvl x p r h=>?_,fun p r h=>?_,fun x p r h=>?_,fun p r h=>?_,fun f acc p r h=>?_⟩
   . rw[dW] at h⊢;split at h
     . rename_i c;rw[if_pos c];exact i3 _ _ h
     . rename_i c;rw[if_neg c];simp only[Option.bind_eq_some_iff] at h⊢;obtain⟨y,h1,h2⟩:=h;exact⟨y,i1 _ _ _ h1,i2 _ _ _ _ h2⟩
   . rw[jc] at h⊢;split at h
     . rename_i c;rw[if_pos c];exact h
     . rename_i c;rw[if_neg c];simp only[Option.bind_eq_some_iff] at h⊢;obtain⟨y,h1,h2⟩:=h;refine⟨y,i1 _ _ _ h1,?_⟩;split at h2
       . rename_i c;rw[if_pos c];exact h2
       . rename_i c;rw[if_neg c];exact i2 _ _ _ _ h2
   . rw[wF] at h⊢;split at h
     . rename_i c;rw[if_pos c];simp only[Option.map_eq_some_iff] at h⊢;obtain⟨y,h1,h2⟩:=h;exact⟨y,i3 _ _ h1,h2⟩
     . rename_i c;rw[if_neg c];split at h
       . rename_i c;rw[if_pos c];simp only[Option.map_eq_some_iff] at h⊢;obtain⟨y,h1,h2⟩:=h;exact⟨y,i3 _ _ h1,h2⟩
       . rename_i c;rw[if_neg c];simp only[Option.bind_eq_some_iff] at h⊢;obtain⟨y,h1,h2⟩:=h;exact⟨y,i5 _ _ h1,i4 _ _ _ h2⟩
   . rw[iM] at h⊢;split at h
     . rename_i c;rw[if_pos c];simp only[Option.bind_eq_some_iff] at h⊢;obtain⟨y,h1,h2⟩:=h;exact⟨y,i1 _ _ _ h1,i4 _ _ _ h2⟩
     . rename_i c;rw[if_neg c];split at h
       . rename_i c;rw[if_pos c];exact i4 _ _ _ h
       . rename_i c;rw[if_neg c];exact h
   . rw[eH] at h⊢;by_cases c:p.bad=true
     . rw[if_pos c] at h ⊢;exact h
     rw[if_neg c] at h ⊢;clear c;by_cases c:(tk L p).k=3
     . rw[if_pos c] at h ⊢;exact h
     rw[if_neg c] at h ⊢;clear c;by_cases c:(tk L p).k=4
     . rw[if_pos c] at h ⊢;exact h
     rw[if_neg c] at h ⊢;clear c;by_cases c:(tk L p).k=5
     . rw[if_pos c] at h ⊢;exact h
     rw[if_neg c] at h ⊢;clear c;by_cases c:dm L jq p=true
     . rw[if_pos c] at h ⊢;exact h
     rw[if_neg c] at h ⊢;clear c;by_cases c:dm L gz p=true
     . rw[if_pos c] at h ⊢;exact h
     rw[if_neg c] at h ⊢;clear c;by_cases c:dm L oh p=true
     . rw[if_pos c] at h ⊢;exact h
     rw[if_neg c] at h ⊢;clear c;by_cases c:(tk L p).k=1
     . rw[if_pos c] at h⊢;by_cases c2:dm L [40] (bF L p)=true
       . rw[if_pos c2] at h⊢;simp only[Option.map_eq_some_iff] at h⊢;obtain⟨y,h1,h2⟩:=h;exact⟨y,i6 _ _ _ _ h1,h2⟩
       . rw[if_neg c2] at h ⊢;exact h
     rw[if_neg c] at h ⊢;clear c;by_cases c:dm L [40] p=true
     . rw[if_pos c] at h⊢;simp only[Option.map_eq_some_iff] at h⊢;obtain⟨y,h1,h2⟩:=h;exact⟨y,i1 _ _ _ h1,h2⟩
     rw[if_neg c] at h ⊢;clear c;by_cases c:dm L dX p=true
     . rw[if_pos c] at h⊢;simp only[Option.bind_eq_some_iff] at h⊢;obtain⟨y,h1,h2⟩:=h;refine⟨y,pV (by omega) h1,?_⟩;split at h2
       . rename_i c;rw[if_pos c];simp only[Option.map_eq_some_iff] at h2⊢;obtain⟨z,h3,h4⟩:=h2;exact⟨z,i1 _ _ _ h3,h4⟩
       . rename_i c;rw[if_neg c];exact h2
     rw[if_neg c] at h ⊢;exact h
   . rw[gY] at h⊢;split at h
     . rename_i c;rw[if_pos c];exact h
     . rename_i c;rw[if_neg c];simp only[Option.bind_eq_some_iff] at h⊢;obtain⟨y,h1,h2⟩:=h;exact⟨y,i1 _ _ _ h1,i6 _ _ _ _ h2⟩
end
def wX (x:List UInt8):Nat:=23+4*x.length
mutual
def wN:Tr->Nat
 | .nd _ _ _ _ x ks=>wX x+wS ks
def wS:List Tr->Nat
 | []=>0
 | t::ts=>wN t+wS ts
end
theorem adJ (t:Tr) (ts:List Tr):wS (t::ts)=wN t+wS ts:=rfl
theorem wP:wS []=0:=rfl
section
variable {L:List Tok}
theorem zn:wX []=23:=rfl
end
theorem SB {m k:Nat} (h:m<10 ^ k) (hk:1<=k) (hm:m<=9223372036854775808):(dec m).length<=k:=by
 obtain⟨d1,d2,d3,d4,d5⟩:=sO m hm;by_cases h0:m=0
 . rw[d5 h0];exact hk
 . have:=adI (dec m) d3 d1 (d4 h0);rw[d2] at this;by_cases hl:(dec m).length<=k
   . exact hl
   . exfalso;have:10 ^ k<=10 ^ ((dec m).length - 1):=Nat.pow_le_pow_right (by decide) (by omega);omega
theorem acb (x:List UInt8):(x.flatMap qb).length<=4*x.length:=by
 induction x with
 | nil=>simp
 | cons c x ih=>
   rw[List.flatMap_cons,List.length_append,List.length_cons];have:(qb c).length<=4:=by
    unfold qb;split
    . simp
    . split
      . simp
      . split
        . simp
        . split<;>simp
   omega
theorem wU (b:Bool) (s:List UInt8):(brk b s).length<=s.length+2:=by unfold brk;split<;>simp
theorem Bc {t:Tr} (w:yK t):(kK t).length+4<=wN t:=by
 induction w with
 | word k l c hk=>
   obtain⟨k1,k2⟩:=hk;rcases (by omega:k=15\/k=16\/k=17\/k=18) with rfl | rfl | rfl | rfl<;>simp[kK,wN,wS,wX,yC,qy,AC,uh]
 | big l c x hx=>
   show x.length+4<=wX x+wS [];unfold wX;omega
 | list l c t _ ih=>
   have e:kK (.nd 20 l c 0 [] [t])=91::(kK t++[93]):=by simp[kK]
   rw[e];show _<=wX []+(wN t+wS []);rw[zn,wP];simp;omega
theorem ry {t:Tr} (w:jC t):(tx t).length+4<=wN t:=by
 refine jC.rec (motive_1:=fun t _=>(tx t).length+4<=wN t) (motive_2:=fun ts _=>(Et ts).length<=wS ts/\(rY ts).length<=wS ts) ?_ ?_ ?_ ?_ ?_ ?_ ?_ ?_ ?_ ?_ ?_ ?_ ?_ ?_ ?_ w
 . intro l c n h;show (txt n).length+4<=23;have:=SB (m:=n.natAbs) (k:=19) (by omega) (by decide) (by omega);unfold txt;rw[if_neg (by omega)];omega
 . intro l c n h;have e:tx (.nd 22 l c n [] [])=txt n++[105]:=by rw[tx.eq_def];simp
   rw[e];show _<=23;have:=SB (m:=n.natAbs) (k:=7) (by omega) (by decide) (by omega);unfold txt;rw[if_neg (by omega)];simp;omega
 . intro l c x _;have e:tx (.nd 23 l c 0 x [])=quo x:=by rw[tx.eq_def];simp
   rw[e];show _<=wX x;have:=acb x;unfold quo wX;rw[List.length_cons,List.length_append,List.length_singleton];omega
 . intro l c n h;rcases h with rfl | rfl<;>simp[tx,wN,wS,wX,jq,gz]
 . intro l c;simp[tx,wN,wS,wX,oh]
 . intro l c x h;rw[JD];show _<=wX x;unfold wX;omega
 . intro l c x h ks _ ih;rw[Bz];show _<=wX x+wS ks;unfold wX;have:=ih.2;simp;omega
 . intro l c a b _ _ ia ib;rw[yA];show _<=wX []+(wN a+(wN b+wS []));rw[zn,wP];have:=wU (decide (a.lv<8)) (tx a);simp;omega
 . intro l c x _ a _ ia;rw[JC];show _<=wX x+(wN a+wS []);rw[wP];unfold wX;have:=wU (decide (a.lv<8)) (tx a);simp;omega
 . intro l c n _ a _ ia;rw[abt];show _<=wX []+(wN a+wS []);rw[zn,wP];have:=wU (decide (a.lv<7)) (tx a);simp;omega
 . intro l c n _ a b _ _ ia ib;rw[JB];show _<=wX []+(wN a+(wN b+wS []));rw[zn,wP];have h1:=wU (decide (a.lv<xJ (jT n).2)) (tx a);have h2:=wU (decide (b.lv<(jT n).2+1)) (tx b);have h3:(jT n).1.length<=2:=by
    rcases Uz n with h | ⟨c,e,_⟩ | ⟨c,e,_⟩
    . revert h
      generalize (jT n).1=x;intro h;simp only[List.mem_cons,List.not_mem_nil,or_false] at h;rcases h with rfl | rfl | rfl | rfl | rfl | rfl<;>decide
    . rw[e];simp
    . rw[e];simp
   simp;omega
 . intro l c l' c' x hx;rw[uV];have e1:kK (.nd 19 l' c' 0 x [])=x:=by simp[kK]
   have e2:rY []=[]:=rfl;have e3:dX.length=4:=rfl;rw[e1,e2];show _<=wX []+(wX x+wS []+wS []);rw[zn,wP];unfold wX;simp[e3];omega
 . intro l c l' c' t wt b _ ib;rw[uV];have h1:=Bc (.list l' c' t wt);have e2:rY [b]=tx b:=by simp[rY,Et]
   have e3:dX.length=4:=rfl;rw[e2];show _<=wX []+(wN (.nd 20 l' c' 0 [] [t])+(wN b+wS []));rw[zn,wP];simp[e3];omega
 . exact⟨Nat.le_refl _,Nat.le_refl _⟩
 . intro t ts _ _ it its;have e1:Et (t::ts)=44::32::(tx t++Et ts):=by simp[Et]
   have e2:rY (t::ts)=tx t++Et ts:=by simp[rY]
   rw[e1,e2,adJ];have:=its.1;refine⟨?_,?_⟩
   . simp;omega
   . simp;omega
def Ud (i:Nat):List UInt8:=10::List.replicate i 9
def OH:Tr->List UInt8
 | .nd _ _ _ _ x ks=>x++(58::32::(match ks with | k::_=>kK k | []=>[]))
mutual
def stx (i:Nat):Tr->List UInt8
 | .nd k _ _ _ x ks=>
   if k=7 then (match ks with | a::b::_=>lX++(32::(x++(58::32::(kK a++(32::61::32::(tx b++[59])))))) | _=>[])
   else if k=8 then (match ks with | a::b::_=>tx a++(32::61::32::(tx b++[59])) | _=>[])
   else if k=9 then (match ks with | a::b::cs=>wM++(32::(tx a++(32::(uu i b++etx i cs)))) | _=>[])
   else if k=10 then (match ks with | a::b::_=>fK++(32::(tx a++(32::uu i b))) | _=>[])
   else if k=11 then (match ks with | a::_=>dC++(32::(tx a++[59])) | []=>dC++[59])
   else if k=12 then (match ks with | a::_=>fQ++(32::(tx a++[59])) | []=>[])
   else (match ks with | a::_=>tx a++[59] | []=>[])
def uu (i:Nat):Tr->List UInt8
 | .nd _ _ _ _ _ ks=>123::(pz (i+1) ks++(Ud i++[125]))
def etx (i:Nat):List Tr->List UInt8
 | []=>[]
 | b::_=>32::(nU++(32::uu i b))
def pz (i:Nat):List Tr->List UInt8
 | []=>[]
 | t::ts=>Ud i++(stx i t++pz i ts)
end
def oZ:List Tr->List UInt8
 | []=>[]
 | t::ts=>10::9::(OH t++(59::oZ ts))
def qo:List Tr->List UInt8
 | []=>[]
 | t::ts=>44::32::(OH t++qo ts)
def qm:List Tr->List UInt8
 | []=>[]
 | t::ts=>OH t++qo ts
def EL (x:List UInt8) (ps:List Tr) (r b:Tr):List UInt8:=
 vS++(32::(x++(40::(qm ps++(41::((if r.k=14 then [] else 58::32::kK r)++(32::uu 0 b)))))))
def zX (x:List UInt8) (fs:List Tr):List UInt8:=jO++(32::(x++(32::123::(oZ fs++[10,125]))))
def kZ:Tr->List UInt8
 | .nd k _ _ n x ks=>if k=2 then zX x ks else match ks.drop n.toNat with
   | r::b::_=>EL x (ks.take n.toNat) r b
   | _=>[]
def fA:List Tr->List UInt8
 | []=>[]
 | t::ts=>kZ t++(10::fA ts)
mutual
inductive JR:Tr->Prop
 | var (l c:Int) (x:List UInt8) (h:rG x) (a b:Tr) (ha:yK a) (hb:jC b):JR (.nd 7 l c 0 x [a,b])
 | set (l c:Int) (a b:Tr) (ha:jC a) (hk:a.k=26\/a.k=28\/a.k=29) (hb:jC b):JR (.nd 8 l c 0 [] [a,b])
 | if1 (l c:Int) (a b:Tr) (ha:jC a) (hb:JQ b):JR (.nd 9 l c 0 [] [a,b])
 | if2 (l c:Int) (a b e:Tr) (ha:jC a) (hb:JQ b) (he:JQ e):JR (.nd 9 l c 0 [] [a,b,e])
 | while_ (l c:Int) (a b:Tr) (ha:jC a) (hb:JQ b):JR (.nd 10 l c 0 [] [a,b])
 | ret0 (l c:Int):JR (.nd 11 l c 0 [] [])
 | ret1 (l c:Int) (a:Tr) (ha:jC a):JR (.nd 11 l c 0 [] [a])
 | print (l c:Int) (a:Tr) (ha:jC a):JR (.nd 12 l c 0 [] [a])
 | do_ (l c:Int) (a:Tr) (ha:jC a) (hk:a.k=27):JR (.nd 13 l c 0 [] [a])
inductive JQ:Tr->Prop
 | blk (l c:Int) (ks:List Tr) (h:qC ks):JQ (.nd 6 l c 0 [] ks)
inductive qC:List Tr->Prop
 | nil:qC []
 | cons (t:Tr) (ts:List Tr) (h:JR t) (hs:qC ts):qC (t::ts)
end
inductive zB (k:Int):Tr->Prop
 | mk (l c:Int) (x:List UInt8) (h:rG x) (a:Tr) (ha:yK a):zB k (.nd k l c 0 x [a])
inductive rH:Tr->Prop
 | rc (l c:Int) (x:List UInt8) (h:sF x) (fs:List Tr) (hf:∀ t∈fs,zB 3 t):rH (.nd 2 l c 0 x fs)
 | fn (l c:Int) (x:List UInt8) (h:rG x) (ps:List Tr) (hp:∀ t∈ps,zB 5 t) (r b:Tr) (hr:r=.nd 14 0 0 0 [] []\/yK r) (hb:JQ b):rH (.nd 4 l c ps.length x (ps++[r,b]))
def wd (x:List UInt8):T3:=(6,0,x)
def Bv:Tr->List T3
 | .nd _ _ _ _ x ks=>(1,0,x)::sT [58]::(match ks with | k::_=>nG k | []=>[])
mutual
def sto:Tr->List T3
 | .nd k _ _ _ x ks=>
   if k=7 then (match ks with | a::b::_=>wd lX::(1,0,x)::sT [58]::(nG a++(sT [61]::(dG b++[sT [59]]))) | _=>[])
   else if k=8 then (match ks with | a::b::_=>dG a++(sT [61]::(dG b++[sT [59]])) | _=>[])
   else if k=9 then (match ks with | a::b::cs=>wd wM::(dG a++(qH b++eto cs)) | _=>[])
   else if k=10 then (match ks with | a::b::_=>wd fK::(dG a++qH b) | _=>[])
   else if k=11 then (match ks with | a::_=>wd dC::(dG a++[sT [59]]) | []=>[wd dC,sT [59]])
   else if k=12 then (match ks with | a::_=>wd fQ::(dG a++[sT [59]]) | []=>[])
   else (match ks with | a::_=>dG a++[sT [59]] | []=>[])
def qH:Tr->List T3
 | .nd _ _ _ _ _ ks=>sT [123]::(lF ks++[sT [125]])
def eto:List Tr->List T3
 | []=>[]
 | b::_=>wd nU::qH b
def lF:List Tr->List T3
 | []=>[]
 | t::ts=>sto t++lF ts
end
def rW:List Tr->List T3
 | []=>[]
 | t::ts=>Bv t++(sT [59]::rW ts)
def ql:List Tr->List T3
 | []=>[]
 | t::ts=>sT [44]::(Bv t++ql ts)
def wH:List Tr->List T3
 | []=>[]
 | t::ts=>Bv t++ql ts
def CS (x:List UInt8) (ps:List Tr) (r b:Tr):List T3:=
 wd vS::(1,0,x)::sT [40]::(wH ps++(sT [41]::((if r.k=14 then [] else sT [58]::nG r)++qH b)))
def vN (x:List UInt8) (fs:List Tr):List T3:=wd jO::(2,0,x)::sT [123]::(rW fs++[sT [125]])
def oP:Tr->List T3
 | .nd k _ _ n x ks=>if k=2 then vN x ks else match ks.drop n.toNat with
   | r::b::_=>CS x (ks.take n.toNat) r b
   | _=>[]
def jL:List Tr->List T3
 | []=>[]
 | t::ts=>oP t++jL ts
section
variable (l c n:Int) (x:List UInt8) (i:Nat)
theorem adB (a b:Tr):stx i (.nd 7 l c n x [a,b])=lX++(32::(x++(58::32::(kK a++(32::61::32::(tx b++[59])))))):=by rw[stx.eq_def];simp
theorem adA (a b:Tr):stx i (.nd 8 l c n x [a,b])=tx a++(32::61::32::(tx b++[59])):=by rw[stx.eq_def];simp
theorem abb (a b:Tr) (cs:List Tr):stx i (.nd 9 l c n x (a::b::cs))=wM++(32::(tx a++(32::(uu i b++etx i cs)))):=by rw[stx.eq_def];simp
theorem Xo (a b:Tr):stx i (.nd 10 l c n x [a,b])=fK++(32::(tx a++(32::uu i b))):=by rw[stx.eq_def];simp
theorem abd:stx i (.nd 11 l c n x [])=dC++[59]:=by rw[stx.eq_def];simp
theorem abe (a:Tr):stx i (.nd 11 l c n x [a])=dC++(32::(tx a++[59])):=by rw[stx.eq_def];simp
theorem Xn (a:Tr):stx i (.nd 12 l c n x [a])=fQ++(32::(tx a++[59])):=by rw[stx.eq_def];simp
theorem afs (a:Tr):stx i (.nd 13 l c n x [a])=tx a++[59]:=by rw[stx.eq_def];simp
theorem XT (k:Int) (ks:List Tr):uu i (.nd k l c n x ks)=123::(pz (i+1) ks++(Ud i++[125])):=by rw[uu.eq_def]
theorem Bj (a b:Tr):sto (.nd 7 l c n x [a,b])=wd lX::(1,0,x)::sT [58]::(nG a++(sT [61]::(dG b++[sT [59]]))):=by rw[sto.eq_def];simp
theorem Bi (a b:Tr):sto (.nd 8 l c n x [a,b])=dG a++(sT [61]::(dG b++[sT [59]])):=by rw[sto.eq_def];simp
theorem tY (a b:Tr) (cs:List Tr):sto (.nd 9 l c n x (a::b::cs))=wd wM::(dG a++(qH b++eto cs)):=by rw[sto.eq_def];simp
theorem uQ (a b:Tr):sto (.nd 10 l c n x [a,b])=wd fK::(dG a++qH b):=by rw[sto.eq_def];simp
theorem yg:sto (.nd 11 l c n x [])=[wd dC,sT [59]]:=by rw[sto.eq_def];simp
theorem yh (a:Tr):sto (.nd 11 l c n x [a])=wd dC::(dG a++[sT [59]]):=by rw[sto.eq_def];simp
theorem uP (a:Tr):sto (.nd 12 l c n x [a])=wd fQ::(dG a++[sT [59]]):=by rw[sto.eq_def];simp
theorem Ju (a:Tr):sto (.nd 13 l c n x [a])=dG a++[sT [59]]:=by rw[sto.eq_def];simp
theorem oV (k:Int) (ks:List Tr):qH (.nd k l c n x ks)=sT [123]::(lF ks++[sT [125]]):=by rw[qH.eq_def]
end
theorem Qv {u:List UInt8} {T:List T3} (h:LX u T):∀ i,LX (Ud i++u) T:=by
 have tabs:∀ i,LX (List.replicate i 9++u) T:=by
  intro i
  induction i with
  | zero=>exact h
  | succ i ih=>rw[List.replicate_succ,List.cons_append];exact bW 9 (by decide) ih
 intro i;exact bW 10 (by decide) (tabs i)
theorem EO {x u:List UInt8} {T:List T3} (hx:x∈([lX,wM,nU,fK,dC,fQ,jO,vS]:List (List UInt8))) (hu:EI u) (h:LX u T):LX (x++u) (wd x::T):=by
 have hh:∀ x∈([lX,wM,nU,fK,dC,fQ,jO,vS]:List (List UInt8)),jh (bt x 0)=1/\(∀ c∈x,inB c.toNat=true)/\jd x=true:=by decide
 obtain⟨h1,h2,h3⟩:=hh x hx;exact lM h1 h2 h3 hu h
theorem ad7 {u:List UInt8} {T:List T3} (h:LX u T):LX (32::61::32::u) (sT [61]::T):=bW 32 (by decide) (Qw (by decide) (fun r e=>by cases e) (bW 32 (by decide) h))
theorem Nc {k:Int} {t:Tr} (w:zB k t) {u:List UInt8} {T:List T3} (hu:EI u) (h:LX u T):LX (OH t++u) (Bv t++T):=by
 cases w with
 | mk l c x hx a ha=>
   have e1:OH (.nd k l c 0 x [a])++u=x++(58::32::(kK a++u)):=by simp[OH]
   have e2:Bv (.nd k l c 0 x [a])++T=(1,0,x)::sT [58]::(nG a++T):=by simp[Bv]
   rw[e1,e2];exact pX hx (bU (by decide) _) (dJ (by decide) (bW 32 (by decide) (Bd ha hu h)))
theorem acy {ts:List Tr} (w:qC ts):∀ {i:Nat} {u:List UInt8} {T:List T3},LX u T->LX (pz i ts++u) (lF ts++T):=by
 refine qC.rec (motive_1:=fun t _=>∀ {i:Nat} {u:List UInt8} {T:List T3},LX u T->LX (stx i t++u) (sto t++T)) (motive_2:=fun t _=>∀ {i:Nat} {u:List UInt8} {T:List T3},LX u T->LX (uu i t++u) (qH t++T)) (motive_3:=fun ts _=>∀ {i:Nat} {u:List UInt8} {T:List T3},LX u T->LX (pz i ts++u) (lF ts++T)) ?_ ?_ ?_ ?_ ?_ ?_ ?_ ?_ ?_ ?_ ?_ ?_ w
 . intro l c x hx a b ha hb i u T h;have e1:stx i (.nd 7 l c 0 x [a,b])++u=lX++(32::(x++(58::32::(kK a++(32::61::32::(tx b++(59::u))))))):=by rw[adB];simp
   have e2:sto (.nd 7 l c 0 x [a,b])++T=wd lX::(1,0,x)::sT [58]::(nG a++(sT [61]::(dG b++(sT [59]::T)))):=by rw[Bj];simp
   rw[e1,e2];exact EO (by decide) (bU (by decide) _) (bW 32 (by decide) (pX hx (bU (by decide) _) (dJ (by decide) (bW 32 (by decide) (Bd ha (bU (by decide) _) (ad7 (mM hb (bU (by decide) _) (dJ (by decide) h))))))))
 . intro l c a b ha _ hb i u T h;have e1:stx i (.nd 8 l c 0 [] [a,b])++u=tx a++(32::61::32::(tx b++(59::u))):=by rw[adA];simp
   have e2:sto (.nd 8 l c 0 [] [a,b])++T=dG a++(sT [61]::(dG b++(sT [59]::T))):=by rw[Bi];simp
   rw[e1,e2];exact mM ha (bU (by decide) _) (ad7 (mM hb (bU (by decide) _) (dJ (by decide) h)))
 . intro l c a b ha _ ib i u T h;have e1:stx i (.nd 9 l c 0 [] [a,b])++u=wM++(32::(tx a++(32::(uu i b++u)))):=by rw[abb];simp[etx]
   have e2:sto (.nd 9 l c 0 [] [a,b])++T=wd wM::(dG a++(qH b++T)):=by rw[tY];simp[eto]
   rw[e1,e2];exact EO (by decide) (bU (by decide) _) (bW 32 (by decide) (mM ha (bU (by decide) _) (bW 32 (by decide) (ib h))))
 . intro l c a b e ha _ _ ib ie i u T h;have e1:stx i (.nd 9 l c 0 [] [a,b,e])++u=wM++(32::(tx a++(32::(uu i b++(32::(nU++(32::(uu i e++u)))))))):=by rw[abb];simp[etx]
   have e2:sto (.nd 9 l c 0 [] [a,b,e])++T=wd wM::(dG a++(qH b++(wd nU::(qH e++T)))):=by rw[tY];simp[eto]
   rw[e1,e2];exact EO (by decide) (bU (by decide) _) (bW 32 (by decide) (mM ha (bU (by decide) _) (bW 32 (by decide) (ib (bW 32 (by decide) (EO (by decide) (bU (by decide) _) (bW 32 (by decide) (ie h))))))))
 . intro l c a b ha _ ib i u T h;have e1:stx i (.nd 10 l c 0 [] [a,b])++u=fK++(32::(tx a++(32::(uu i b++u)))):=by rw[Xo];simp
   have e2:sto (.nd 10 l c 0 [] [a,b])++T=wd fK::(dG a++(qH b++T)):=by rw[uQ];simp
   rw[e1,e2];exact EO (by decide) (bU (by decide) _) (bW 32 (by decide) (mM ha (bU (by decide) _) (bW 32 (by decide) (ib h))))
 . intro l c i u T h;have e1:stx i (.nd 11 l c 0 [] [])++u=dC++(59::u):=by rw[abd];simp
   rw[e1,yg];exact EO (by decide) (bU (by decide) _) (dJ (by decide) h)
 . intro l c a ha i u T h;have e1:stx i (.nd 11 l c 0 [] [a])++u=dC++(32::(tx a++(59::u))):=by rw[abe];simp
   have e2:sto (.nd 11 l c 0 [] [a])++T=wd dC::(dG a++(sT [59]::T)):=by rw[yh];simp
   rw[e1,e2];exact EO (by decide) (bU (by decide) _) (bW 32 (by decide) (mM ha (bU (by decide) _) (dJ (by decide) h)))
 . intro l c a ha i u T h;have e1:stx i (.nd 12 l c 0 [] [a])++u=fQ++(32::(tx a++(59::u))):=by rw[Xn];simp
   have e2:sto (.nd 12 l c 0 [] [a])++T=wd fQ::(dG a++(sT [59]::T)):=by rw[uP];simp
   rw[e1,e2];exact EO (by decide) (bU (by decide) _) (bW 32 (by decide) (mM ha (bU (by decide) _) (dJ (by decide) h)))
 . intro l c a ha _ i u T h;have e1:stx i (.nd 13 l c 0 [] [a])++u=tx a++(59::u):=by rw[afs];simp
   have e2:sto (.nd 13 l c 0 [] [a])++T=dG a++(sT [59]::T):=by rw[Ju];simp
   rw[e1,e2];exact mM ha (bU (by decide) _) (dJ (by decide) h)
 . intro l c ks _ ih i u T h;have e1:uu i (.nd 6 l c 0 [] ks)++u=123::(pz (i+1) ks++(Ud i++(125::u))):=by rw[XT];simp
   have e2:qH (.nd 6 l c 0 [] ks)++T=sT [123]::(lF ks++(sT [125]::T)):=by rw[oV];simp
   rw[e1,e2];exact dJ (by decide) (ih (Qv (dJ (by decide) h) i))
 . intro i u T h;exact h
 . intro t ts _ _ it its i u T h;have e1:pz i (t::ts)++u=Ud i++(stx i t++(pz i ts++u)):=by simp[pz]
   have e2:lF (t::ts)++T=sto t++(lF ts++T):=by simp[lF]
   rw[e1,e2];exact Qv (it (its h)) i
theorem Nb {b:Tr} (w:JQ b) {i:Nat} {u:List UInt8} {T:List T3} (h:LX u T):LX (uu i b++u) (qH b++T):=by
 cases w with
 | blk l c ks hs=>
   have e1:uu i (.nd 6 l c 0 [] ks)++u=123::(pz (i+1) ks++(Ud i++(125::u))):=by rw[XT];simp
   have e2:qH (.nd 6 l c 0 [] ks)++T=sT [123]::(lF ks++(sT [125]::T)):=by rw[oV];simp
   rw[e1,e2];exact dJ (by decide) (acy hs (Qv (dJ (by decide) h) i))
theorem Gp:∀ {fs:List Tr},(∀ t∈fs,zB 3 t)->∀ {u:List UInt8} {T:List T3},LX u T->LX (oZ fs++u) (rW fs++T)
 | [],_,u,T,h=>h
 | t::ts,w,u,T,h=>by
   have e1:oZ (t::ts)++u=10::9::(OH t++(59::(oZ ts++u))):=by simp[oZ]
   have e2:rW (t::ts)++T=Bv t++(sT [59]::(rW ts++T)):=by simp[rW]
   rw[e1,e2];exact bW 10 (by decide) (bW 9 (by decide) (Nc (w t (by simp)) (bU (by decide) _) (dJ (by decide) (Gp (fun y hy=>w y (by simp[hy])) h))))
theorem aaG (ts:List Tr) {u:List UInt8} (hu:EI u):EI (qo ts++u):=by
 cases ts with
 | nil=>exact hu
 | cons t ts=>exact bU (by decide) _
theorem Gq:∀ {ps:List Tr},(∀ t∈ps,zB 5 t)->∀ {u:List UInt8} {T:List T3},EI u->LX u T->LX (qo ps++u) (ql ps++T)/\LX (qm ps++u) (wH ps++T)
 | [],_,u,T,_,h=>⟨h,h⟩
 | t::ts,w,u,T,hu,h=>by
   obtain⟨h1,_⟩:=Gq (ps:=ts) (fun y hy=>w y (by simp[hy])) hu h;have e1:qo (t::ts)++u=44::32::(OH t++(qo ts++u)):=by simp[qo]
   have e2:ql (t::ts)++T=sT [44]::(Bv t++(ql ts++T)):=by simp[ql]
   have e3:qm (t::ts)++u=OH t++(qo ts++u):=by simp[qm]
   have e4:wH (t::ts)++T=Bv t++(ql ts++T):=by simp[wH]
   have key:=Nc (w t (by simp)) (aaG ts hu) h1;rw[e1,e2,e3,e4];exact⟨dJ (by decide) (bW 32 (by decide) key),key⟩
theorem Rk (l c:Int) (x:List UInt8) (ps:List Tr) (r b:Tr):kZ (.nd 4 l c ps.length x (ps++[r,b]))=EL x ps r b/\oP (.nd 4 l c ps.length x (ps++[r,b]))=CS x ps r b:=by
 simp[kZ,oP]
theorem aen {t:Tr} (w:yK t):15<=t.k/\t.k<=20:=by
 cases w with
 | word k l c h=>show 15<=k/\k<=20;omega
 | big=>exact⟨by simp[Tr.k],by simp[Tr.k]⟩
 | list=>exact⟨by simp[Tr.k],by simp[Tr.k]⟩
theorem aeV {t:Tr} (w:rH t) {u:List UInt8} {T:List T3} (h:LX u T):LX (kZ t++u) (oP t++T):=by
 cases w with
 | rc l c x hx fs hf=>
   have e1:kZ (.nd 2 l c 0 x fs)++u=jO++(32::(x++(32::123::(oZ fs++(10::125::u))))):=by simp[kZ,zX]
   have e2:oP (.nd 2 l c 0 x fs)++T=wd jO::(2,0,x)::sT [123]::(rW fs++(sT [125]::T)):=by simp[oP,vN]
   rw[e1,e2];exact EO (by decide) (bU (by decide) _) (bW 32 (by decide) (Dp hx (bU (by decide) _) (bW 32 (by decide) (dJ (by decide) (Gp hf (bW 10 (by decide) (dJ (by decide) h)))))))
 | fn l c x hx ps hp r b hr hb=>
   rw[(Rk l c x ps r b).1,(Rk l c x ps r b).2];have key:LX ((if r.k=14 then [] else 58::32::kK r)++(32::(uu 0 b++u))) ((if r.k=14 then [] else sT [58]::nG r)++(qH b++T)):=by
    rcases hr with rfl | hr
    . exact bW 32 (by decide) (Nb hb h)
    . have:=aen hr;rw[if_neg (by omega),if_neg (by omega)];exact dJ (by decide) (bW 32 (by decide) (Bd hr (bU (by decide) _) (bW 32 (by decide) (Nb hb h))))
   have e1:EL x ps r b++u=vS++(32::(x++(40::(qm ps++(41::((if r.k=14 then [] else 58::32::kK r)++(32::(uu 0 b++u)))))))):=by simp[EL]
   have e2:CS x ps r b++T=wd vS::(1,0,x)::sT [40]::(wH ps++(sT [41]::((if r.k=14 then [] else sT [58]::nG r)++(qH b++T)))):=by simp[CS]
   rw[e1,e2];exact EO (by decide) (bU (by decide) _) (bW 32 (by decide) (pX hx (bU (by decide) _) (dJ (by decide) (Gq hp (bU (by decide) _) (dJ (by decide) key)).2)))
theorem TP:∀ {ks:List Tr},(∀ t∈ks,rH t)->∀ {u:List UInt8} {T:List T3},LX u T->LX (fA ks++u) (jL ks++T)
 | [],_,u,T,h=>h
 | t::ts,w,u,T,h=>by
   have e1:fA (t::ts)++u=kZ t++(10::(fA ts++u)):=by simp[fA]
   have e2:jL (t::ts)++T=oP t++(jL ts++T):=by simp[jL]
   rw[e1,e2];exact aeV (w t (by simp)) (bW 10 (by decide) (TP (fun y hy=>w y (by simp[hy])) h))
section
attribute [local go_sem] bg bf aC aj au aI aU aH ax says_again
def L8:Fm:=(.Z 0
 (.Z 0
 (.O (.pt 0 3) 1 [.J 0] ⟨1,0,0,0,0,0⟩
 (.C 136 [.W [9],.J 0] (.p (.S 0)) ⟨0,0,1,0,0,0⟩
 (.mk [(.s (.c [10])),(.s (.x 0))] 9 2
 (.V 41 [.P 0,.L 0]
 .E))))))
theorem V9:aZ ⟨true,[]⟩ Tryz.prog (fun l=>([]:List bK).getD l ⟨[],[],[]⟩) Tryz.f102=L8:=by kernel_rfl
theorem aay:az Tryz.prog .zero Tryz.f102.params.toList=some ([.P 0],⟨0,0,0,0,0,1⟩):=by kernel_rfl
def Md:Fm:=(.Z 0
 (.Z 0
 (.O (.pt 0 0) 1 [(.sl (.x 0))] ⟨0,0,0,0,1,0⟩
 (.N (.X (.x 0) (.x 0))
 (.O (.el (.x 0) (.x 0) 6 0) 6 [.U 1,.J 2,.J 3,.J 4,.J 5,(.s (.x 0))] ⟨5,0,1,0,0,0⟩
 (.C 38 [.P 0,.J 0] (.p (.L 1)) ⟨0,0,0,0,1,0⟩
 (.ite (.eqI (.x 1) (.c 7))
 (.O (.el (.x 1) (.c 0) 1 0) 1 [.J 6] ⟨1,0,0,0,0,0⟩
 (.N (.X (.c 0) (.x 1))
 (.callK (.c true) [((.c true),(.el (.x 1) (.c 0) 1 0),1)] 28 [.P 0,.J 6] (.p (.S 1)) ⟨0,0,1,0,0,0⟩
 (.mk [(.s (.c [118,97,114,32])),(.s (.x 0)),(.s (.c [58,32])),(.s (.x 1)),(.s (.c [32,61,32]))] 9 5
 (.V 41 [.P 0,.L 2]
 (.N (.X (.c 1) (.x 1))
 (.O (.el (.x 1) (.c 1) 1 0) 1 [.J 7] ⟨1,0,0,0,0,0⟩
 (.V 26 [.P 0,.J 7]
 (.mk [(.s (.c [59]))] 9 1
 (.V 41 [.P 0,.L 3]
 .E))))))))))
 (.ite (.eqI (.x 1) (.c 8))
 (.N (.X (.c 0) (.x 1))
 (.O (.el (.x 1) (.c 0) 1 0) 1 [.J 6] ⟨1,0,0,0,0,0⟩
 (.V 26 [.P 0,.J 6]
 (.mk [(.s (.c [32,61,32]))] 9 1
 (.V 41 [.P 0,.L 2]
 (.N (.X (.c 1) (.x 1))
 (.O (.el (.x 1) (.c 1) 1 0) 1 [.J 7] ⟨1,0,0,0,0,0⟩
 (.V 26 [.P 0,.J 7]
 (.mk [(.s (.c [59]))] 9 1
 (.V 41 [.P 0,.L 3]
 .E))))))))))
 (.ite (.eqI (.x 1) (.c 9))
 (.mk [(.s (.c [105,102,32]))] 9 1
 (.V 41 [.P 0,.L 2]
 (.N (.X (.c 0) (.x 1))
 (.O (.el (.x 1) (.c 0) 1 0) 1 [.J 6] ⟨1,0,0,0,0,0⟩
 (.V 26 [.P 0,.J 6]
 (.mk [(.s (.c [32]))] 9 1
 (.V 41 [.P 0,.L 3]
 (.N (.X (.c 1) (.x 1))
 (.O (.el (.x 1) (.c 1) 1 0) 1 [.J 7] ⟨1,0,0,0,0,0⟩
 (.V 67 [.P 0,.J 7]
 (.ite (.eqI (.cnt (.x 1)) (.c 3))
 (.mk [(.s (.c [32,101,108,115,101,32]))] 9 1
 (.V 41 [.P 0,.L 4]
 (.N (.X (.c 2) (.x 1))
 (.O (.el (.x 1) (.c 2) 1 0) 1 [.J 8] ⟨1,0,0,0,0,0⟩
 (.V 67 [.P 0,.J 8]
 .E)))))
 .E)))))))))))
 (.ite (.eqI (.x 1) (.c 10))
 (.mk [(.s (.c [119,104,105,108,101,32]))] 9 1
 (.V 41 [.P 0,.L 2]
 (.N (.X (.c 0) (.x 1))
 (.O (.el (.x 1) (.c 0) 1 0) 1 [.J 6] ⟨1,0,0,0,0,0⟩
 (.V 26 [.P 0,.J 6]
 (.mk [(.s (.c [32]))] 9 1
 (.V 41 [.P 0,.L 3]
 (.N (.X (.c 1) (.x 1))
 (.O (.el (.x 1) (.c 1) 1 0) 1 [.J 7] ⟨1,0,0,0,0,0⟩
 (.V 67 [.P 0,.J 7]
 .E))))))))))
 (.ite (.eqI (.x 1) (.c 11))
 (.mk [(.s (.c [114,101,116,117,114,110]))] 9 1
 (.V 41 [.P 0,.L 2]
 (.loop 0 ⟨[(.c 0)],[],[],[],[],[]⟩
 (.ite (.lt (.x 6) (.cnt (.x 1)))
 (.N (.X (.x 6) (.x 1))
 (.O (.el (.x 1) (.x 6) 1 0) 1 [.J 7] ⟨1,0,0,0,0,0⟩
 (.mk [(.s (.c [32]))] 9 1
 (.V 41 [.P 0,.L 3]
 (.V 26 [.P 0,.J 7]
 (.N (.R (.add (.x 6) (.c 1)))
 (.again 0 ⟨6,0,1,0,3,1⟩ ⟨7,0,1,0,3,1⟩ ⟨[(.add (.x 6) (.c 1))],[],[],[],[],[]⟩)))))))
 (.mk [(.s (.c [59]))] 9 1
 (.V 41 [.P 0,.L 3]
 .E))))))
 (.ite (.eqI (.x 1) (.c 12))
 (.mk [(.s (.c [112,114,105,110,116,32]))] 9 1
 (.V 41 [.P 0,.L 2]
 (.N (.X (.c 0) (.x 1))
 (.O (.el (.x 1) (.c 0) 1 0) 1 [.J 6] ⟨1,0,0,0,0,0⟩
 (.V 26 [.P 0,.J 6]
 (.mk [(.s (.c [59]))] 9 1
 (.V 41 [.P 0,.L 3]
 .E)))))))
 (.ite (.eqI (.x 1) (.c 13))
 (.N (.X (.c 0) (.x 1))
 (.O (.el (.x 1) (.c 0) 1 0) 1 [.J 6] ⟨1,0,0,0,0,0⟩
 (.V 26 [.P 0,.J 6]
 (.mk [(.s (.c [59]))] 9 1
 (.V 41 [.P 0,.L 2]
 .E)))))
 (.mk [(.s (.c [59]))] 9 1
 (.V 41 [.P 0,.L 2]
 .E)))))))))))))))
theorem Wi:aZ ⟨true,[]⟩ Tryz.prog (fun l=>([⟨[106],[107,108,109,7,110,111,112,113,114,115,116],[]⟩]:List bK).getD l ⟨[],[],[]⟩) Tryz.f103=Md:=by kernel_rfl
theorem aaB:az Tryz.prog .zero Tryz.f103.params.toList=some ([.P 0,.J 0],⟨1,0,0,0,0,1⟩):=by kernel_rfl
theorem Q3 (n:Nat):Lib.repeatL [9] n=List.replicate n (9:UInt8):=by
 induction n with
 | zero=>rfl
 | succ n ih=>rw[List.replicate_succ,<- ih];rfl
def Kt:Ct Tryz.prog where
 f:=136
 spec:=fun args h φ=>∃ n:Nat,args=[.string (B [9]),.int .i64 (n:Nat)]/\n<=1000000/\φ (.string (B (List.replicate n 9))) h
 ok:=by
  rintro args h φ w ⟨n,rfl,hn,hφ⟩ hH;refine (Tryz.strings_Repeat (B [9]) n w (by omega) (by rw[gm];show 1*n<=_;omega)).mono ?_;rintro e w' ⟨rfl,hb⟩;rw[show (B [9]).data.toList=[9] by simp[B],Q3];exact⟨_,h,rfl,hφ,hH.below hb,Fr.of_below hb⟩
theorem Ut {h:Hp} {b:Nat} {lsl sl:bM} {l:List Ng} {used:Bool} {i j:Int} {acc:List UInt8} (X:mF h b lsl l used sl i acc):kP h (some (b,0+3)) [.int .i64 j]=some (h.set b ⟨prn b lsl used sl j,rU⟩)/\mF (h.set b ⟨prn b lsl used sl j,rU⟩) b lsl l used sl j acc/\qB h (h.set b ⟨prn b lsl used sl j,rU⟩) b sl sl:=by
 have hb:=X.prn.at_;have G:qB h (h.set b ⟨prn b lsl used sl j,rU⟩) b sl sl:=⟨fun c o hc _ ho=>by rw[aO _ hc];exact ho,fun z hz=>.inl ⟨z,hz,rfl⟩⟩;refine⟨?_,X.go ⟨aA _ _ _,lQ X.prn.own X.prn.ne _,X.prn.n,X.prn.ne,X.prn.fit,X.prn.pos⟩ G,G⟩;unfold kP;simp only[hb];rw[if_pos (by simp[prn])];rfl
def Su:Ct Tryz.prog where
 f:=102
 spec:=fun args h φ=>∃ b lsl l used sl,∃ inn:Nat,∃ acc,args=[.pointer (some ⟨b,0,none⟩)]/\mF h b lsl l used sl (inn:Nat) acc/\inn<=1000000/\acc.length+(inn+1)<=1000000000000/\Writes h b lsl l sl (inn:Nat) (acc++Ud inn) φ
 ok:=by
  rintro args h φ w ⟨b,lsl,l,used,sl,inn,acc,rfl,X,hi,hl,hφ⟩ hH;refine bn Tryz.func102 V9 aay [Kt,ig] φ (bP) (bu) ⟨[],[],[],[],[],[some (b,0)],h,df⟩ ⟨rfl,rfl,rfl,rfl,rfl,rfl⟩ af ?_ w hH rfl;generalize hE:(⟨aG _,_,_,_⟩:Env)=E;have sbk:E.spec 136=(Kt).spec:=by rw[<- hE];rfl
  have sb3:E.spec 41=(ig).spec:=by rw[<- hE];rfl
  have ep:E.post=φ:=by rw[<- hE]
  clear hE;unfold L8;have hb:=X.prn.at_;rw[<- ae];rw[ai];refine⟨by simp[go_sem]<;>omega,?_⟩;rw[ai];refine⟨by simp[go_sem]<;>omega,?_⟩;refine rL ⟨[(inn:Int)],[],[],[],[],[]⟩ rfl af (by simp[go_sem,bz hb,prn]) ?_;rw[ag,sbk];refine⟨inn,rfl,hi,?_⟩;refine rR ⟨[],[],[List.replicate inn 9],[],[],[]⟩ rfl af rfl ?_;rw[ae,aK];intro b1 hb1;rw[ag,sb3];refine aW (ss:=[[10],List.replicate inn 9]) X hb1 (by simp;omega) (by simp) fun u1 s1 k1 X1 G1=>?_
  refine rR ⟨[],[],[],[],[],[]⟩ rfl af rfl ?_;rw[ak,ep];exact hφ u1 s1 k1 (by simpa[Ud] using X1) G1
section
variable (i:Nat) (l c n:Int) (x:List UInt8) (a b e:Tr)
theorem OC:stx i (.nd 7 l c n x [a,b])=[118,97,114,32]++(x++([58,32]++(kK a++([32,61,32]++(tx b++[59]))))):=by rw[stx.eq_def];simp[lX]
theorem OB:stx i (.nd 8 l c n x [a,b])=tx a++([32,61,32]++(tx b++[59])):=by rw[stx.eq_def];simp
theorem Oz:stx i (.nd 9 l c n x [a,b])=[105,102,32]++(tx a++([32]++uu i b)):=by rw[stx.eq_def];simp[wM,etx]
theorem OA:stx i (.nd 9 l c n x [a,b,e])=[105,102,32]++(tx a++([32]++(uu i b++([32,101,108,115,101,32]++uu i e)))):=by rw[stx.eq_def];simp[wM,etx,nU]
theorem EH:stx i (.nd 10 l c n x [a,b])=[119,104,105,108,101,32]++(tx a++([32]++uu i b)):=by rw[stx.eq_def];simp[fK]
theorem zx:stx i (.nd 11 l c n x [])=[114,101,116,117,114,110]++[59]:=by rw[stx.eq_def];simp[dC]
theorem zy:stx i (.nd 11 l c n x [a])=[114,101,116,117,114,110]++([32]++(tx a++[59])):=by rw[stx.eq_def];simp[dC]
theorem EG:stx i (.nd 12 l c n x [a])=[112,114,105,110,116,32]++(tx a++[59]):=by rw[stx.eq_def];simp[fQ]
theorem U3:stx i (.nd 13 l c n x [a])=tx a++[59]:=by rw[stx.eq_def];simp
theorem U0 (k:Int) (ks:List Tr):uu i (.nd k l c n x ks)=[123]++(pz (i+1) ks++(Ud i++[125])):=by rw[uu.eq_def];simp
end
def abL (n:Nat) (args:List Value) (h:Hp) (φ:Value->Hp->Prop):Prop:=
 ∃ b lsl l used sl,∃ inn:Nat,∃ acc p t,args=[.pointer (some ⟨b,0,none⟩),.int .i64 (p:Nat)]/\mF h b lsl l used sl (inn:Nat) acc/\Ps l p t/\JR t/\t.n<=n/\l.length<=1000000/\inn+t.n<=1000000/\Fits acc (stx inn t)/\Writes h b lsl l sl (inn:Nat) (acc++stx inn t) φ
def aep (n:Nat) (args:List Value) (h:Hp) (φ:Value->Hp->Prop):Prop:=
 ∃ b lsl l used sl,∃ inn:Nat,∃ acc p t,args=[.pointer (some ⟨b,0,none⟩),.int .i64 (p:Nat)]/\mF h b lsl l used sl (inn:Nat) acc/\Ps l p t/\JQ t/\t.n<=n/\l.length<=1000000/\inn+t.n<=1000000/\Fits acc (uu inn t)/\Writes h b lsl l sl (inn:Nat) (acc++uu inn t) φ
def AP (n:Nat):Prop:=∀ args h φ w,abL n args h φ->Holds h w->Calls Tryz.prog 103 args.toArray w fun e w'=>∃ v k,e=.returned v/\φ v k/\Holds k w'/\Fr w.heap.size h k w w'
def HY (n:Nat):Prop:=∀ args h φ w,aep n args h φ->Holds h w->Calls Tryz.prog 67 args.toArray w fun e w'=>∃ v k,e=.returned v/\φ v k/\Holds k w'/\Fr w.heap.size h k w w'
def Sz {n:Nat} (H:AP n):Ct Tryz.prog:=⟨103,abL n,H⟩
def Ir {n:Nat} (H:HY n):Ct Tryz.prog:=⟨67,aep n,H⟩
theorem iH {h:Hp} {s:bM} {ks:List Int} (R:iy h s ks) (j:Nat) (q:Nat) (hq:ks[j]? = some (q:Int)):∃ b o,s.a=some (b,o)/\j<s.n/\hread h (some (b,o+j*1+0)) 1=some [.int .i64 (q:Int)]:=by
 obtain⟨hj,e⟩:=List.getElem?_eq_some_iff.1 hq;obtain⟨b,o,h1,h2⟩:=R.read hj;rw[e] at h2;exact⟨b,o,h1,by rw[R.n];exact hj,h2⟩
def aaS (h:Hp) (b:Nat) (lsl:bM) (l:List Ng) (sl:bM) (inn:Int) (acc:List UInt8) (p:Nat) (t:Tr) (_:Nat) (C:Ctx):Prop:=
 ∃ (j:Nat) (u:Bool) (s s' s3:bM) (k:Hp),C=⟨[(p:Int),t.g.k,t.g.l,t.g.c,t.g.z,t.g.n,(j:Int)],[],[t.g.x],[],[lsl,s,s3],[some (b,0)],k,df⟩/\j<=t.kl.length/\mF k b lsl l u s' inn (acc++([114,101,116,117,114,110]++(t.kl.take j).flatMap fun a=>[32]++tx a))/\qB h k b sl s'/\iy k s (places ((p+1:Nat):Int) t.kl)
set_option maxHeartbeats 8000000 in
set_option maxRecDepth 10000 in
theorem abM {n:Nat} (ih:HY n):AP (n+1):=by
 rintro args h φ w ⟨b,lsl,l,used,sl,inn,acc,p,t,rfl,X,P,W,hn,hl,hi,F,hφ⟩ hH;refine bn Tryz.func103 Wi aaB [jR,ig,lI (uj 1000000),Ir ih,lJ (kQ 1000000)] φ (aaS h b lsl l sl (inn:Nat) acc p t) (fun _ C=>((t.kl.length:Int) - C.i.getD 6 0).toNat) ⟨[((p:Nat):Int)],[],[],[],[],[some (b,0)],h,df⟩ ⟨rfl,rfl,rfl,rfl,rfl,rfl⟩ af ?_ w hH rfl;generalize hE:(⟨aG _,_,_,_⟩:Env)=E;have sb5:E.spec 38=(jR).spec:=by rw[<- hE];rfl
 have sb3:E.spec 41=(ig).spec:=by rw[<- hE];rfl
 have san:E.spec 26=(lI (uj 1000000)).spec:=by rw[<- hE];rfl
 have sah:E.spec 67=(Ir ih).spec:=by rw[<- hE];rfl
 have sa0:E.spec 28=(lJ (kQ 1000000)).spec:=by rw[<- hE];rfl
 have ep:E.post=φ:=by rw[<- hE]
 have ei:E.inv=(aaS h b lsl l sl (inn:Nat) acc p t):=by rw[<- hE]
 have em:E.meas=(fun _ C=>((t.kl.length:Int) - C.i.getD 6 0).toNat):=by rw[<- hE]
 clear hE;unfold Md;obtain⟨c0,o0,ha,hrd,hpn⟩:=X.node P;obtain⟨hpl,hpt⟩:=P.node;have hb:=X.prn.at_;have hlt:=P.lt;rw[<- ae];rw[ai];refine⟨by simp[go_sem]<;>omega,?_⟩;rw[ai];refine⟨by simp[go_sem]<;>omega,?_⟩;refine rL ⟨[],[],[],[],[lsl],[]⟩ rfl af (by simp[go_sem,bz hb,prn]) ?_;rw[ai];refine⟨by simp[go_sem,ha]<;>omega,?_⟩;obtain⟨k,ln,c,nn,x,ks⟩:=t;rw[iC] at hlt hn hi;have hks:=vI ks;refine rL ⟨[k,ln,c,((Tr.ns ks:Nat):Int),nn],[],[x],[],[],[]⟩ rfl af (by simpa[go_sem,ha,Ng.cs,Tr.g] using hrd) ?_;rw[ag,sb5];refine⟨b,lsl,l,p,((Tr.ns ks:Nat):Int),ks.length,places ((p:Nat)+1) ks,_,_,rfl,hb,X.row,hl,by omega,⟨l[p],List.getElem?_eq_getElem hpl,by rw[hpt];rfl⟩,by omega,by omega,P.iI (Nat.le_refl _),fun s k1 hle ho hsn=>?_⟩;refine rR ⟨[],[],[],[],[s],[]⟩ rfl af rfl ?_;have X1:=X.le hle;have R:=iy.own ho hsn;have hle':dA h k1:=hle;have fin:Writes k1 b lsl l sl (inn:Nat) (acc++stx inn (.nd k ln c nn x ks)) φ:=fun u2 s2 k2 Y G=>hφ u2 s2 k2 Y (G.le hle)
 have ps:((p:Nat):Int)+1=((p+1:Nat):Int):=by omega
 rw[ps] at R;have hn':Tr.ns ks<=n:=by omega
 have hφ':=hφ;clear hφ ho hle;have PK:=P.kids;cases W with
 | var _ _ _ h0 a a2 w1 w2=>
   rw[ah,if_pos (by simp[go_sem])];rw[OC] at F fin;obtain⟨P1,PK2⟩:=PK.cons;have P2:=PK2.cons.1;rw[ay,ay,aQ] at hn' hi;have hs2:s.n=2:=R.n;have hkp:pU l 1000000 (p+1)=some (kK a):=lC w1 P1 (by have:=P1.lt;omega);generalize kK a=kt at F fin hkp;obtain⟨q_0,y_0,hq_0,hj_0,hr_0⟩:=iH R 0 (p+1) (by simp[places]);refine rL ⟨[((p+1:Nat):Int)],[],[],[],[],[]⟩ rfl af (by simpa[go_sem,hq_0] using hr_0) ?_;rw[ai];refine⟨by simp[go_sem,hq_0]<;>omega,?_⟩;rw[ae,aI,if_pos (by rfl),sa0];refine⟨b,lsl,l,p+1,kt,_,_,rfl,X1.prn.at_,X1.row,hl,hkp,?_,?_⟩
   . have:=(F.sub (a:=[118,97,114,32]++(x++[58,32])) (b:=kt) (c:=[32,61,32]++(tx a2++[59])) (by simp)).1;omega
   refine⟨fun _ _ _=>rfl,(bQ _ _).2 ⟨⟨[],[],[kt],[],[],[]⟩,rfl,af,rfl,?_⟩⟩;rw[ae,aK];intro b_1 hb_1;rw[ag,sb3];refine aW (ss:=[[118,97,114,32],x,[58,32],kt,[32,61,32]]) X1 hb_1 (by have hF:=F.2;simp only[List.length_append,List.length_cons,List.length_nil,List.flatten_cons,List.flatten_nil] at hF ⊢;omega) (by simp) fun u_1 s_1 k_1 X_1 G_1=>?_
   refine rR ⟨[],[],[],[],[],[]⟩ rfl af rfl ?_;have R_1:=R.go X1.prn G_1;obtain⟨q_2,y_2,hq_2,hj_2,hr_2⟩:=iH R_1 1 (p+1+a.n) (by simp[places]<;>omega);rw[ai];refine⟨by simp[go_sem,hq_2]<;>omega,?_⟩;refine rL ⟨[((p+1+a.n:Nat):Int)],[],[],[],[],[]⟩ rfl af (by simpa[go_sem,hq_2] using hr_2) ?_;rw[ag,san];refine⟨b,lsl,l,u_1,s_1,inn,_,p+1+a.n,a2,rfl,X_1,P2,w2,by have:=P2.lt;omega,hl,⟨(by have hF:=F.2;simp only[List.length_append,List.length_cons,List.length_nil] at hF ⊢;omega),(by have hF:=F.2;simp only[List.length_append,List.length_cons,List.length_nil,List.flatten_cons,List.flatten_nil] at hF ⊢;omega)⟩,fun u_2 s_2 k_2 X_2 G_2=>?_⟩;refine rR ⟨[],[],[],[],[],[]⟩ rfl af rfl ?_;have R_2:=R_1.go X_1.prn G_2;rw[ae,aK];intro b_3 hb_3;rw[ag,sb3];refine aW (ss:=[[59]]) X_2 hb_3 (by have hF:=F.2;simp only[List.length_append,List.length_cons,List.length_nil,List.flatten_cons,List.flatten_nil] at hF ⊢;omega) (by simp) fun u_3 s_3 k_3 X_3 G_3=>?_
   refine rR ⟨[],[],[],[],[],[]⟩ rfl af rfl ?_;have R_3:=R_2.go X_2.prn G_3;rw[ak,ep];exact fin u_3 s_3 k_3 (by simpa using X_3) ((G_1.trans G_2 X_1.prn.nn).trans G_3 X_2.prn.nn)
 | set _ _ a a2 w1 _ w2=>
   iterate 1 (rw[ah,if_neg (by simp[go_sem])])
   rw[ah,if_pos (by simp[go_sem])];rw[OB] at F fin;obtain⟨P1,PK2⟩:=PK.cons;have P2:=PK2.cons.1;rw[ay,ay,aQ] at hn' hi;have hs2:s.n=2:=R.n;obtain⟨q_1,y_1,hq_1,hj_1,hr_1⟩:=iH R 0 (p+1) (by simp[places]<;>omega);rw[ai];refine⟨by simp[go_sem,hq_1]<;>omega,?_⟩;refine rL ⟨[((p+1:Nat):Int)],[],[],[],[],[]⟩ rfl af (by simpa[go_sem,hq_1] using hr_1) ?_;rw[ag,san];refine⟨b,lsl,l,used,sl,inn,_,p+1,a,rfl,X1,P1,w1,by have:=P1.lt;omega,hl,⟨(by have hF:=F.2;simp only[List.length_append,List.length_cons,List.length_nil] at hF ⊢;omega),(by have hF:=F.2;simp only[List.length_append,List.length_cons,List.length_nil] at hF ⊢;omega)⟩,fun u_1 s_1 k_1 X_1 G_1=>?_⟩;refine rR ⟨[],[],[],[],[],[]⟩ rfl af rfl ?_;have R_1:=R.go X1.prn G_1;rw[ae,aK];intro b_2 hb_2;rw[ag,sb3];refine aW (ss:=[[32,61,32]]) X_1 hb_2 (by have hF:=F.2;simp only[List.length_append,List.length_cons,List.length_nil,List.flatten_cons,List.flatten_nil] at hF ⊢;omega) (by simp) fun u_2 s_2 k_2 X_2 G_2=>?_
   refine rR ⟨[],[],[],[],[],[]⟩ rfl af rfl ?_;have R_2:=R_1.go X_1.prn G_2;obtain⟨q_3,y_3,hq_3,hj_3,hr_3⟩:=iH R_2 1 (p+1+a.n) (by simp[places]<;>omega);rw[ai];refine⟨by simp[go_sem,hq_3]<;>omega,?_⟩;refine rL ⟨[((p+1+a.n:Nat):Int)],[],[],[],[],[]⟩ rfl af (by simpa[go_sem,hq_3] using hr_3) ?_;rw[ag,san];refine⟨b,lsl,l,u_2,s_2,inn,_,p+1+a.n,a2,rfl,X_2,P2,w2,by have:=P2.lt;omega,hl,⟨(by have hF:=F.2;simp only[List.length_append,List.length_cons,List.length_nil] at hF ⊢;omega),(by have hF:=F.2;simp only[List.length_append,List.length_cons,List.length_nil,List.flatten_cons,List.flatten_nil] at hF ⊢;omega)⟩,fun u_3 s_3 k_3 X_3 G_3=>?_⟩;refine rR ⟨[],[],[],[],[],[]⟩ rfl af rfl ?_;have R_3:=R_2.go X_2.prn G_3;rw[ae,aK];intro b_4 hb_4;rw[ag,sb3];refine aW (ss:=[[59]]) X_3 hb_4 (by have hF:=F.2;simp only[List.length_append,List.length_cons,List.length_nil,List.flatten_cons,List.flatten_nil] at hF ⊢;omega) (by simp) fun u_4 s_4 k_4 X_4 G_4=>?_
   refine rR ⟨[],[],[],[],[],[]⟩ rfl af rfl ?_;have R_4:=R_3.go X_3.prn G_4;rw[ak,ep];exact fin u_4 s_4 k_4 (by simpa using X_4) (((G_1.trans G_2 X_1.prn.nn).trans G_3 X_2.prn.nn).trans G_4 X_3.prn.nn)
 | if1 _ _ a a2 w1 w2=>
   iterate 2 (rw[ah,if_neg (by simp[go_sem])])
   rw[ah,if_pos (by simp[go_sem])];rw[Oz] at F fin;obtain⟨P1,PK2⟩:=PK.cons;have P2:=PK2.cons.1;rw[ay,ay,aQ] at hn' hi;have hs2:s.n=2:=R.n;rw[ae,aK];intro b_1 hb_1;rw[ag,sb3];refine aW (ss:=[[105,102,32]]) X1 hb_1 (by have hF:=F.2;simp only[List.length_append,List.length_cons,List.length_nil,List.flatten_cons,List.flatten_nil] at hF ⊢;omega) (by simp) fun u_1 s_1 k_1 X_1 G_1=>?_
   refine rR ⟨[],[],[],[],[],[]⟩ rfl af rfl ?_;have R_1:=R.go X1.prn G_1;obtain⟨q_2,y_2,hq_2,hj_2,hr_2⟩:=iH R_1 0 (p+1) (by simp[places]<;>omega);rw[ai];refine⟨by simp[go_sem,hq_2]<;>omega,?_⟩;refine rL ⟨[((p+1:Nat):Int)],[],[],[],[],[]⟩ rfl af (by simpa[go_sem,hq_2] using hr_2) ?_;rw[ag,san];refine⟨b,lsl,l,u_1,s_1,inn,_,p+1,a,rfl,X_1,P1,w1,by have:=P1.lt;omega,hl,⟨(by have hF:=F.2;simp only[List.length_append,List.length_cons,List.length_nil] at hF ⊢;omega),(by have hF:=F.2;simp only[List.length_append,List.length_cons,List.length_nil,List.flatten_cons,List.flatten_nil] at hF ⊢;omega)⟩,fun u_2 s_2 k_2 X_2 G_2=>?_⟩;refine rR ⟨[],[],[],[],[],[]⟩ rfl af rfl ?_;have R_2:=R_1.go X_1.prn G_2;rw[ae,aK];intro b_3 hb_3;rw[ag,sb3];refine aW (ss:=[[32]]) X_2 hb_3 (by have hF:=F.2;simp only[List.length_append,List.length_cons,List.length_nil,List.flatten_cons,List.flatten_nil] at hF ⊢;omega) (by simp) fun u_3 s_3 k_3 X_3 G_3=>?_
   refine rR ⟨[],[],[],[],[],[]⟩ rfl af rfl ?_;have R_3:=R_2.go X_2.prn G_3;obtain⟨q_4,y_4,hq_4,hj_4,hr_4⟩:=iH R_3 1 (p+1+a.n) (by simp[places]<;>omega);rw[ai];refine⟨by simp[go_sem,hq_4]<;>omega,?_⟩;refine rL ⟨[((p+1+a.n:Nat):Int)],[],[],[],[],[]⟩ rfl af (by simpa[go_sem,hq_4] using hr_4) ?_;rw[ag,sah];refine⟨b,lsl,l,u_3,s_3,inn,_,p+1+a.n,a2,rfl,X_3,P2,w2,by omega,hl,by omega,⟨(by have hF:=F.2;simp only[List.length_append,List.length_cons,List.length_nil] at hF ⊢;omega),(by have hF:=F.2;simp only[List.length_append,List.length_cons,List.length_nil,List.flatten_cons,List.flatten_nil] at hF ⊢;omega)⟩,fun u_4 s_4 k_4 X_4 G_4=>?_⟩;refine rR ⟨[],[],[],[],[],[]⟩ rfl af rfl ?_;have R_4:=R_3.go X_3.prn G_4;rw[ah,if_neg (by simp[go_sem,hs2])];rw[ak,ep];exact fin u_4 s_4 k_4 (by simpa using X_4) (((G_1.trans G_2 X_1.prn.nn).trans G_3 X_2.prn.nn).trans G_4 X_3.prn.nn)
 | if2 _ _ a a2 a3 w1 w2 w3=>
   iterate 2 (rw[ah,if_neg (by simp[go_sem])])
   rw[ah,if_pos (by simp[go_sem])];rw[OA] at F fin;obtain⟨P1,PK2⟩:=PK.cons;obtain⟨P2,PK3⟩:=PK2.cons;have P3:=PK3.cons.1;rw[ay,ay,ay,aQ] at hn' hi;have hs2:s.n=3:=R.n;rw[ae,aK];intro b_1 hb_1;rw[ag,sb3];refine aW (ss:=[[105,102,32]]) X1 hb_1 (by have hF:=F.2;simp only[List.length_append,List.length_cons,List.length_nil,List.flatten_cons,List.flatten_nil] at hF ⊢;omega) (by simp) fun u_1 s_1 k_1 X_1 G_1=>?_
   refine rR ⟨[],[],[],[],[],[]⟩ rfl af rfl ?_;have R_1:=R.go X1.prn G_1;obtain⟨q_2,y_2,hq_2,hj_2,hr_2⟩:=iH R_1 0 (p+1) (by simp[places]<;>omega);rw[ai];refine⟨by simp[go_sem,hq_2]<;>omega,?_⟩;refine rL ⟨[((p+1:Nat):Int)],[],[],[],[],[]⟩ rfl af (by simpa[go_sem,hq_2] using hr_2) ?_;rw[ag,san];refine⟨b,lsl,l,u_1,s_1,inn,_,p+1,a,rfl,X_1,P1,w1,by have:=P1.lt;omega,hl,⟨(by have hF:=F.2;simp only[List.length_append,List.length_cons,List.length_nil] at hF ⊢;omega),(by have hF:=F.2;simp only[List.length_append,List.length_cons,List.length_nil,List.flatten_cons,List.flatten_nil] at hF ⊢;omega)⟩,fun u_2 s_2 k_2 X_2 G_2=>?_⟩;refine rR ⟨[],[],[],[],[],[]⟩ rfl af rfl ?_;have R_2:=R_1.go X_1.prn G_2;rw[ae,aK];intro b_3 hb_3;rw[ag,sb3];refine aW (ss:=[[32]]) X_2 hb_3 (by have hF:=F.2;simp only[List.length_append,List.length_cons,List.length_nil,List.flatten_cons,List.flatten_nil] at hF ⊢;omega) (by simp) fun u_3 s_3 k_3 X_3 G_3=>?_
   refine rR ⟨[],[],[],[],[],[]⟩ rfl af rfl ?_;have R_3:=R_2.go X_2.prn G_3;obtain⟨q_4,y_4,hq_4,hj_4,hr_4⟩:=iH R_3 1 (p+1+a.n) (by simp[places]<;>omega);rw[ai];refine⟨by simp[go_sem,hq_4]<;>omega,?_⟩;refine rL ⟨[((p+1+a.n:Nat):Int)],[],[],[],[],[]⟩ rfl af (by simpa[go_sem,hq_4] using hr_4) ?_;rw[ag,sah];refine⟨b,lsl,l,u_3,s_3,inn,_,p+1+a.n,a2,rfl,X_3,P2,w2,by omega,hl,by omega,⟨(by have hF:=F.2;simp only[List.length_append,List.length_cons,List.length_nil] at hF ⊢;omega),(by have hF:=F.2;simp only[List.length_append,List.length_cons,List.length_nil,List.flatten_cons,List.flatten_nil] at hF ⊢;omega)⟩,fun u_4 s_4 k_4 X_4 G_4=>?_⟩;refine rR ⟨[],[],[],[],[],[]⟩ rfl af rfl ?_;have R_4:=R_3.go X_3.prn G_4;rw[ah,if_pos (by simp[go_sem,hs2])];rw[ae,aK];intro b_5 hb_5;rw[ag,sb3];refine aW (ss:=[[32,101,108,115,101,32]]) X_4 hb_5 (by have hF:=F.2;simp only[List.length_append,List.length_cons,List.length_nil,List.flatten_cons,List.flatten_nil] at hF ⊢;omega) (by simp) fun u_5 s_5 k_5 X_5 G_5=>?_
   refine rR ⟨[],[],[],[],[],[]⟩ rfl af rfl ?_;have R_5:=R_4.go X_4.prn G_5;obtain⟨q_6,y_6,hq_6,hj_6,hr_6⟩:=iH R_5 2 (p+1+a.n+a2.n) (by simp[places]<;>omega);rw[ai];refine⟨by simp[go_sem,hq_6]<;>omega,?_⟩;refine rL ⟨[((p+1+a.n+a2.n:Nat):Int)],[],[],[],[],[]⟩ rfl af (by simpa[go_sem,hq_6] using hr_6) ?_;rw[ag,sah];refine⟨b,lsl,l,u_5,s_5,inn,_,p+1+a.n+a2.n,a3,rfl,X_5,P3,w3,by omega,hl,by omega,⟨(by have hF:=F.2;simp only[List.length_append,List.length_cons,List.length_nil] at hF ⊢;omega),(by have hF:=F.2;simp only[List.length_append,List.length_cons,List.length_nil,List.flatten_cons,List.flatten_nil] at hF ⊢;omega)⟩,fun u_6 s_6 k_6 X_6 G_6=>?_⟩;refine rR ⟨[],[],[],[],[],[]⟩ rfl af rfl ?_;have R_6:=R_5.go X_5.prn G_6;rw[ak,ep];exact fin u_6 s_6 k_6 (by simpa using X_6) (((((G_1.trans G_2 X_1.prn.nn).trans G_3 X_2.prn.nn).trans G_4 X_3.prn.nn).trans G_5 X_4.prn.nn).trans G_6 X_5.prn.nn)
 | while_ _ _ a a2 w1 w2=>
   iterate 3 (rw[ah,if_neg (by simp[go_sem])])
   rw[ah,if_pos (by simp[go_sem])];rw[EH] at F fin;obtain⟨P1,PK2⟩:=PK.cons;have P2:=PK2.cons.1;rw[ay,ay,aQ] at hn' hi;have hs2:s.n=2:=R.n;rw[ae,aK];intro b_1 hb_1;rw[ag,sb3];refine aW (ss:=[[119,104,105,108,101,32]]) X1 hb_1 (by have hF:=F.2;simp only[List.length_append,List.length_cons,List.length_nil,List.flatten_cons,List.flatten_nil] at hF ⊢;omega) (by simp) fun u_1 s_1 k_1 X_1 G_1=>?_
   refine rR ⟨[],[],[],[],[],[]⟩ rfl af rfl ?_;have R_1:=R.go X1.prn G_1;obtain⟨q_2,y_2,hq_2,hj_2,hr_2⟩:=iH R_1 0 (p+1) (by simp[places]<;>omega);rw[ai];refine⟨by simp[go_sem,hq_2]<;>omega,?_⟩;refine rL ⟨[((p+1:Nat):Int)],[],[],[],[],[]⟩ rfl af (by simpa[go_sem,hq_2] using hr_2) ?_;rw[ag,san];refine⟨b,lsl,l,u_1,s_1,inn,_,p+1,a,rfl,X_1,P1,w1,by have:=P1.lt;omega,hl,⟨(by have hF:=F.2;simp only[List.length_append,List.length_cons,List.length_nil] at hF ⊢;omega),(by have hF:=F.2;simp only[List.length_append,List.length_cons,List.length_nil,List.flatten_cons,List.flatten_nil] at hF ⊢;omega)⟩,fun u_2 s_2 k_2 X_2 G_2=>?_⟩;refine rR ⟨[],[],[],[],[],[]⟩ rfl af rfl ?_;have R_2:=R_1.go X_1.prn G_2;rw[ae,aK];intro b_3 hb_3;rw[ag,sb3];refine aW (ss:=[[32]]) X_2 hb_3 (by have hF:=F.2;simp only[List.length_append,List.length_cons,List.length_nil,List.flatten_cons,List.flatten_nil] at hF ⊢;omega) (by simp) fun u_3 s_3 k_3 X_3 G_3=>?_
   refine rR ⟨[],[],[],[],[],[]⟩ rfl af rfl ?_;have R_3:=R_2.go X_2.prn G_3;obtain⟨q_4,y_4,hq_4,hj_4,hr_4⟩:=iH R_3 1 (p+1+a.n) (by simp[places]<;>omega);rw[ai];refine⟨by simp[go_sem,hq_4]<;>omega,?_⟩;refine rL ⟨[((p+1+a.n:Nat):Int)],[],[],[],[],[]⟩ rfl af (by simpa[go_sem,hq_4] using hr_4) ?_;rw[ag,sah];refine⟨b,lsl,l,u_3,s_3,inn,_,p+1+a.n,a2,rfl,X_3,P2,w2,by omega,hl,by omega,⟨(by have hF:=F.2;simp only[List.length_append,List.length_cons,List.length_nil] at hF ⊢;omega),(by have hF:=F.2;simp only[List.length_append,List.length_cons,List.length_nil,List.flatten_cons,List.flatten_nil] at hF ⊢;omega)⟩,fun u_4 s_4 k_4 X_4 G_4=>?_⟩;refine rR ⟨[],[],[],[],[],[]⟩ rfl af rfl ?_;have R_4:=R_3.go X_3.prn G_4;rw[ak,ep];exact fin u_4 s_4 k_4 (by simpa using X_4) (((G_1.trans G_2 X_1.prn.nn).trans G_3 X_2.prn.nn).trans G_4 X_3.prn.nn)
 | ret0=>
   iterate 4 (rw[ah,if_neg (by simp[go_sem])])
   rw[ah,if_pos (by simp[go_sem])];rw[zx] at F fin;have hs2:s.n=0:=R.n;rw[ae,aK];intro b_1 hb_1;rw[ag,sb3];refine aW (ss:=[[114,101,116,117,114,110]]) X1 hb_1 (by have hF:=F.2;simp only[List.length_append,List.length_cons,List.length_nil,List.flatten_cons,List.flatten_nil] at hF ⊢;omega) (by simp) fun u_1 s_1 k_1 X_1 G_1=>?_
   refine rR ⟨[],[],[],[],[],[]⟩ rfl af rfl ?_;have R_1:=R.go X1.prn G_1;have X_r:mF k_1 b lsl l u_1 s_1 (inn:Nat) (acc++([114,101,116,117,114,110]++(([]:List Tr).flatMap fun a=>[32]++tx a))):=by simpa using X_1
   rw[ae];refine lL ?_ ?_
   . rw[ei];exact⟨0,_,s,_,_,_,rfl,Nat.zero_le _,X_r,G_1.le hle',R_1⟩
   rintro⟨xi,xb,xs,xv,xl,xp⟩ h' M' hc hinv hm hM1;rw[ei] at hinv;rw[em] at hm;obtain⟨j,u5,s5,s6,s7,k5,hC,hj5,X5,G5,R5⟩:=hinv;simp[Ctx.push,Ctx.heap,Ctx.bare] at hC;obtain⟨⟨-,-,-,-,-,-,rfl⟩,rfl,⟨-,rfl⟩,rfl,⟨rfl,rfl,rfl⟩,rfl,rfl⟩:=hC;clear hc hM1;have hj6:j<=0:=hj5;obtain rfl:j=0:=by omega
   rw[aj,if_neg (by simp[go_sem,hs2])];rw[ae,aK];intro b_6 hb_6;rw[ag,sb3];have X5':mF h' b lsl l u5 s6 inn (acc++[114,101,116,117,114,110]):=by simpa[Tr.kl] using X5
   refine aW (ss:=[[59]]) X5' hb_6 (by have hF:=F.2;simp only[List.length_append,List.length_cons,List.length_nil,List.flatten_cons,List.flatten_nil] at hF ⊢;omega) (by simp) fun u6 s8 k6 X6 G6=>?_
   refine rR ⟨[],[],[],[],[],[]⟩ rfl af rfl ?_;rw[ak,ep];exact hφ' u6 s8 k6 (by rw[zx];simpa using X6) (G5.trans G6 X5.prn.nn)
 | ret1 _ _ a w1=>
   iterate 4 (rw[ah,if_neg (by simp[go_sem])])
   rw[ah,if_pos (by simp[go_sem])];rw[zy] at F fin;obtain⟨P1,_⟩:=PK.cons;rw[ay,aQ] at hn' hi;have hs2:s.n=1:=R.n;rw[ae,aK];intro b_1 hb_1;rw[ag,sb3];refine aW (ss:=[[114,101,116,117,114,110]]) X1 hb_1 (by have hF:=F.2;simp only[List.length_append,List.length_cons,List.length_nil,List.flatten_cons,List.flatten_nil] at hF ⊢;omega) (by simp) fun u_1 s_1 k_1 X_1 G_1=>?_
   refine rR ⟨[],[],[],[],[],[]⟩ rfl af rfl ?_;have R_1:=R.go X1.prn G_1;have X_r:mF k_1 b lsl l u_1 s_1 (inn:Nat) (acc++([114,101,116,117,114,110]++(([]:List Tr).flatMap fun a=>[32]++tx a))):=by simpa using X_1
   rw[ae];refine lL ?_ ?_
   . rw[ei];exact⟨0,_,s,_,_,_,rfl,Nat.zero_le _,X_r,G_1.le hle',R_1⟩
   rintro⟨xi,xb,xs,xv,xl,xp⟩ h' M' hc hinv hm hM1;rw[ei] at hinv;rw[em] at hm;obtain⟨j,u5,s5,s6,s7,k5,hC,hj5,X5,G5,R5⟩:=hinv;simp[Ctx.push,Ctx.heap,Ctx.bare] at hC;obtain⟨⟨-,-,-,-,-,-,rfl⟩,rfl,⟨-,rfl⟩,rfl,⟨rfl,rfl,rfl⟩,rfl,rfl⟩:=hC;clear hc hM1;have hm':M' 0=((1:Nat) - (j:Int)).toNat:=hm;have hj6:j<=1:=hj5;rcases (show j=0\/j=1 by omega) with rfl | rfl
   . have X5':mF h' b lsl l u5 s6 inn (acc++[114,101,116,117,114,110]):=by simpa[Tr.kl] using X5
     rw[aj,if_pos (by simp[go_sem,hs2])];obtain⟨q_5,y_5,hq_5,hj_5,hr_5⟩:=iH R5 0 (p+1) (by simp[places,Tr.kl]);rw[ai];refine⟨by simp[go_sem,hq_5]<;>omega,?_⟩;refine rL ⟨[((p+1:Nat):Int)],[],[],[],[],[]⟩ rfl af (by simpa[go_sem,hq_5] using hr_5) ?_;rw[ae,aK];intro b_6 hb_6;rw[ag,sb3];refine aW (ss:=[[32]]) X5' hb_6 (by have hF:=F.2;simp only[List.length_append,List.length_cons,List.length_nil,List.flatten_cons,List.flatten_nil] at hF ⊢;omega) (by simp) fun u6 s6 k6 X6 G6=>?_
     refine rR ⟨[],[],[],[],[],[]⟩ rfl af rfl ?_;rw[ag,san];refine⟨b,lsl,l,u6,s6,inn,_,p+1,a,rfl,X6,P1,w1,by have:=P1.lt;omega,hl,⟨(by have hF:=F.2;simp only[List.length_append,List.length_cons,List.length_nil] at hF ⊢;omega),(by have hF:=F.2;simp only[List.length_append,List.length_cons,List.length_nil,List.flatten_cons,List.flatten_nil] at hF ⊢;omega)⟩,fun u7 s8 k7 X7 G7=>?_⟩;refine rR ⟨[],[],[],[],[],[]⟩ rfl af rfl ?_;rw[ai];refine⟨by simp[go_sem]<;>omega,?_⟩;rw[ae,says_again,ei,em];refine⟨⟨1,u7,s,s8,_,k7,rfl,Nat.le_refl _,by simpa[Tr.kl] using X7,(G5.trans G6 X5.prn.nn).trans G7 X6.prn.nn,(R5.go X5.prn G6).go X6.prn G7⟩,?_⟩;show (((1:Nat):Int) - (0+1)).toNat<M' 0;rw[hm'];decide
   . rw[aj,if_neg (by simp[go_sem,hs2])];rw[ae,aK];intro b_6 hb_6;rw[ag,sb3];have X5':mF h' b lsl l u5 s6 inn (acc++([114,101,116,117,114,110]++([32]++tx a))):=by simpa[Tr.kl] using X5
     refine aW (ss:=[[59]]) X5' hb_6 (by have hF:=F.2;simp only[List.length_append,List.length_cons,List.length_nil,List.flatten_cons,List.flatten_nil] at hF ⊢;omega) (by simp) fun u6 s8 k6 X6 G6=>?_
     refine rR ⟨[],[],[],[],[],[]⟩ rfl af rfl ?_;rw[ak,ep];exact hφ' u6 s8 k6 (by rw[zy];simpa using X6) (G5.trans G6 X5.prn.nn)
 | print _ _ a w1=>
   iterate 5 (rw[ah,if_neg (by simp[go_sem])])
   rw[ah,if_pos (by simp[go_sem])];rw[EG] at F fin;obtain⟨P1,_⟩:=PK.cons;rw[ay,aQ] at hn' hi;have hs2:s.n=1:=R.n;rw[ae,aK];intro b_1 hb_1;rw[ag,sb3];refine aW (ss:=[[112,114,105,110,116,32]]) X1 hb_1 (by have hF:=F.2;simp only[List.length_append,List.length_cons,List.length_nil,List.flatten_cons,List.flatten_nil] at hF ⊢;omega) (by simp) fun u_1 s_1 k_1 X_1 G_1=>?_
   refine rR ⟨[],[],[],[],[],[]⟩ rfl af rfl ?_;have R_1:=R.go X1.prn G_1;obtain⟨q_2,y_2,hq_2,hj_2,hr_2⟩:=iH R_1 0 (p+1) (by simp[places]<;>omega);rw[ai];refine⟨by simp[go_sem,hq_2]<;>omega,?_⟩;refine rL ⟨[((p+1:Nat):Int)],[],[],[],[],[]⟩ rfl af (by simpa[go_sem,hq_2] using hr_2) ?_;rw[ag,san];refine⟨b,lsl,l,u_1,s_1,inn,_,p+1,a,rfl,X_1,P1,w1,by have:=P1.lt;omega,hl,⟨(by have hF:=F.2;simp only[List.length_append,List.length_cons,List.length_nil] at hF ⊢;omega),(by have hF:=F.2;simp only[List.length_append,List.length_cons,List.length_nil,List.flatten_cons,List.flatten_nil] at hF ⊢;omega)⟩,fun u_2 s_2 k_2 X_2 G_2=>?_⟩;refine rR ⟨[],[],[],[],[],[]⟩ rfl af rfl ?_;have R_2:=R_1.go X_1.prn G_2;rw[ae,aK];intro b_3 hb_3;rw[ag,sb3];refine aW (ss:=[[59]]) X_2 hb_3 (by have hF:=F.2;simp only[List.length_append,List.length_cons,List.length_nil,List.flatten_cons,List.flatten_nil] at hF ⊢;omega) (by simp) fun u_3 s_3 k_3 X_3 G_3=>?_
   refine rR ⟨[],[],[],[],[],[]⟩ rfl af rfl ?_;have R_3:=R_2.go X_2.prn G_3;rw[ak,ep];exact fin u_3 s_3 k_3 (by simpa using X_3) ((G_1.trans G_2 X_1.prn.nn).trans G_3 X_2.prn.nn)
 | do_ _ _ a w1 _=>
   iterate 6 (rw[ah,if_neg (by simp[go_sem])])
   rw[ah,if_pos (by simp[go_sem])];rw[U3] at F fin;obtain⟨P1,_⟩:=PK.cons;rw[ay,aQ] at hn' hi;have hs2:s.n=1:=R.n;obtain⟨q_1,y_1,hq_1,hj_1,hr_1⟩:=iH R 0 (p+1) (by simp[places]<;>omega);rw[ai];refine⟨by simp[go_sem,hq_1]<;>omega,?_⟩;refine rL ⟨[((p+1:Nat):Int)],[],[],[],[],[]⟩ rfl af (by simpa[go_sem,hq_1] using hr_1) ?_;rw[ag,san];refine⟨b,lsl,l,used,sl,inn,_,p+1,a,rfl,X1,P1,w1,by have:=P1.lt;omega,hl,⟨(by have hF:=F.2;simp only[List.length_append,List.length_cons,List.length_nil] at hF ⊢;omega),(by have hF:=F.2;simp only[List.length_append,List.length_cons,List.length_nil] at hF ⊢;omega)⟩,fun u_1 s_1 k_1 X_1 G_1=>?_⟩;refine rR ⟨[],[],[],[],[],[]⟩ rfl af rfl ?_;have R_1:=R.go X1.prn G_1;rw[ae,aK];intro b_2 hb_2;rw[ag,sb3];refine aW (ss:=[[59]]) X_1 hb_2 (by have hF:=F.2;simp only[List.length_append,List.length_cons,List.length_nil,List.flatten_cons,List.flatten_nil] at hF ⊢;omega) (by simp) fun u_2 s_2 k_2 X_2 G_2=>?_
   refine rR ⟨[],[],[],[],[],[]⟩ rfl af rfl ?_;have R_2:=R_1.go X_1.prn G_2;rw[ak,ep];exact fin u_2 s_2 k_2 (by simpa using X_2) (G_1.trans G_2 X_1.prn.nn)
def FY:Fm:=(.mk [(.s (.c [123]))] 9 1
 (.V 41 [.P 0,.L 0]
 (.Z 0
 (.Z 0
 (.O (.pt 0 3) 1 [.J 1] ⟨1,0,0,0,0,0⟩
 (.N (.R (.add (.x 1) (.c 1)))
 (.Z 0
 (.Z 0
 (.store (.pt 0 3) [(.i .i64 (.add (.x 1) (.c 1)))]
 (.C 38 [.P 0,.J 0] (.p (.L 1)) ⟨0,0,0,0,1,0⟩
 (.loop 0 ⟨[(.c 0)],[],[],[],[],[]⟩
 (.ite (.lt (.x 2) (.cnt (.x 1)))
 (.N (.X (.x 2) (.x 1))
 (.O (.el (.x 1) (.x 2) 1 0) 1 [.J 3] ⟨1,0,0,0,0,0⟩
 (.V 102 [.P 0]
 (.V 103 [.P 0,.J 3]
 (.N (.R (.add (.x 2) (.c 1)))
 (.again 0 ⟨2,0,0,0,2,1⟩ ⟨3,0,0,0,2,1⟩ ⟨[(.add (.x 2) (.c 1))],[],[],[],[],[]⟩))))))
 (.Z 0
 (.Z 0
 (.O (.pt 0 3) 1 [.J 3] ⟨1,0,0,0,0,0⟩
 (.N (.R (.sub (.x 3) (.c 1)))
 (.Z 0
 (.Z 0
 (.store (.pt 0 3) [(.i .i64 (.sub (.x 3) (.c 1)))]
 (.V 102 [.P 0]
 (.mk [(.s (.c [125]))] 9 1
 (.V 41 [.P 0,.L 2]
 .E))))))))))))))))))))))
theorem Qc:aZ ⟨true,[]⟩ Tryz.prog (fun l=>([⟨[20],[21,22,23,5,24,25,26,27,28,29],[]⟩]:List bK).getD l ⟨[],[],[]⟩) Tryz.f67=FY:=by kernel_rfl
theorem WT:az Tryz.prog .zero Tryz.f67.params.toList=some ([.P 0,.J 0],⟨1,0,0,0,0,1⟩):=by kernel_rfl
theorem jS (i:Nat):(Ud i).length=i+1:=by simp[Ud]
theorem uO (i:Nat) (t:Tr) (ts:List Tr):pz i (t::ts)=Ud i++(stx i t++pz i ts):=by rw[pz.eq_def]
def XQ (h:Hp) (b:Nat) (lsl:bM) (l:List Ng) (sl:bM) (inn:Nat) (acc:List UInt8) (p:Nat) (ks:List Tr) (_:Nat) (C:Ctx):Prop:=
 ∃ (j:Nat) (u:Bool) (s s' s3:bM) (k:Hp) (pre rest:List Tr) (a:List UInt8),C=⟨[(p:Int),(inn:Int),(j:Int)],[],[],[],[s3,s],[some (b,0)],k,df⟩/\ks=pre++rest/\pre.length=j/\mF k b lsl l u s' ((inn+1:Nat):Int) (acc++([123]++a))/\qB h k b sl s'/\iy k s (places ((p+1:Nat):Int) ks)/\a++pz (inn+1) rest=pz (inn+1) ks
theorem qC.app:∀ {a b:List Tr},qC (a++b)->qC b
 | [],_,h=>h
 | _::_,_,.cons _ _ _ hs=>qC.app hs
theorem uC {l:List Ng} {p:Nat} {ks pre rest:List Tr} {t:Tr} (P:JM l p ks) (e:ks=pre++t::rest):Ps l (p+Tr.ns pre) t/\(places (p:Nat) ks)[pre.length]? = some ((p+Tr.ns pre:Nat):Int):=by
 subst e;refine⟨(JM.app P).cons.1,?_⟩;rw[qU,List.getElem?_append_right (by rw[dK];omega),dK,Nat.sub_self,places];simp
set_option maxHeartbeats 8000000 in
theorem adL {n:Nat} (ih:AP n):HY (n+1):=by
 rintro args h φ w ⟨b,lsl,l,used,sl,inn,acc,p,t,rfl,X,P,W,hn,hl,hi,F,hφ⟩ hH;cases W with
 | blk ln c ks hk=>
 refine bn Tryz.func67 Qc WT [ig,jR,Su,Sz ih] φ (XQ h b lsl l sl inn acc p ks) (fun _ C=>((ks.length:Int) - C.i.getD 2 0).toNat) ⟨[((p:Nat):Int)],[],[],[],[],[some (b,0)],h,df⟩ ⟨rfl,rfl,rfl,rfl,rfl,rfl⟩ af ?_ w hH rfl;generalize hE:(⟨aG _,_,_,_⟩:Env)=E;have sb3:E.spec 41=(ig).spec:=by rw[<- hE];rfl
 have sb5:E.spec 38=(jR).spec:=by rw[<- hE];rfl
 have sbl:E.spec 102=(Su).spec:=by rw[<- hE];rfl
 have sas:E.spec 103=(Sz ih).spec:=by rw[<- hE];rfl
 have ep:E.post=φ:=by rw[<- hE]
 have ei:E.inv=(XQ h b lsl l sl inn acc p ks):=by rw[<- hE]
 have em:E.meas=(fun _ C=>((ks.length:Int) - C.i.getD 2 0).toNat):=by rw[<- hE]
 clear hE;unfold FY;obtain⟨hpl,hpt⟩:=P.node;have hlt:=P.lt;rw[iC] at hn hi hlt;have hks:=vI ks;have PK:=P.kids;rw[U0] at F hφ;rw[<- ae];rw[ae,aK];intro b_1 hb_1;rw[ag,sb3];refine aW (ss:=[[123]]) X hb_1 (by have hF:=F.2;simp only[List.length_append,List.length_cons,List.length_nil,List.flatten_cons,List.flatten_nil] at hF ⊢;omega) (by simp) fun u_1 s_1 k_1 X_1 G_1=>?_
 refine rR ⟨[],[],[],[],[],[]⟩ rfl af rfl ?_;rw[ai];refine⟨by simp[go_sem]<;>omega,?_⟩;rw[ai];refine⟨by simp[go_sem]<;>omega,?_⟩;refine rL ⟨[(inn:Int)],[],[],[],[],[]⟩ rfl af (by simp[go_sem,bz X_1.prn.at_,prn]) ?_;rw[ai];refine⟨by simp[go_sem]<;>omega,?_⟩;rw[ai];refine⟨by simp[go_sem]<;>omega,?_⟩;rw[ai];refine⟨by simp[go_sem]<;>omega,?_⟩;obtain⟨w1,X_2,G_2⟩:=Ut (j:=((inn+1:Nat):Int)) X_1;rw[ae,aH];refine⟨_,w1,?_⟩;rw[ag,sb5];refine⟨b,lsl,l,p,((Tr.ns ks:Nat):Int),ks.length,places ((p:Nat)+1) ks,_,_,rfl,X_2.prn.at_,X_2.row,hl,by omega,⟨l[p],List.getElem?_eq_getElem hpl,by rw[hpt];rfl⟩,by omega,by omega,P.iI (Nat.le_refl _),fun s k_3 hle ho hsn=>?_⟩;refine rR ⟨[],[],[],[],[s],[]⟩ rfl af rfl ?_;have X_3:=X_2.le hle;have R:=iy.own ho hsn;rw[show ((p:Nat):Int)+1=((p+1:Nat):Int) by omega] at R;have G_3:qB h k_3 b sl s_1:=(G_1.trans G_2 X_1.prn.nn).trans ⟨fun c o _ _ hc=>hle c o hc,fun z hz=>.inl ⟨z,hz,rfl⟩⟩ X_2.prn.nn;have X_4:mF k_3 b lsl l u_1 s_1 ((inn+1:Nat):Int) (acc++([123]++[])):=by simpa using X_3
 rw[ae];refine lL ?_ ?_
 . rw[ei];exact⟨0,_,s,_,_,_,[],ks,[],rfl,rfl,rfl,X_4,G_3,R,by simp⟩
 rintro⟨xi,xb,xs,xv,xl,xp⟩ h' M' hc hinv hm hM1;rw[ei] at hinv;rw[em] at hm;obtain⟨j,u5,s5,s6,s7,k5,pre,rest,a,hC,hks5,hj5,X5,G5,R5,ha⟩:=hinv;simp[Ctx.push,Ctx.heap,Ctx.bare] at hC;obtain⟨rfl,rfl,rfl,rfl,⟨rfl,rfl,rfl⟩,rfl,rfl⟩:=hC;clear hc hM1 X_1 X_2 X_3 X_4 G_1 G_2 G_3 R w1 ho hle;have hm':M' 0=((ks.length:Int) - (j:Int)).toNat:=hm;have hsn5:s.n=ks.length:=by rw[R5.n,dK]
 have hlen:ks.length=j+rest.length:=by rw[hks5,List.length_append,hj5]
 cases rest with
 | nil=>
   rw[List.length_nil] at hlen;rw[aj,if_neg (by simp[go_sem];omega)];rw[pz,List.append_nil] at ha;rw[ai];refine⟨by simp[go_sem]<;>omega,?_⟩;rw[ai];refine⟨by simp[go_sem]<;>omega,?_⟩;refine rL ⟨[((inn+1:Nat):Int)],[],[],[],[],[]⟩ rfl af (by simp[go_sem,bz X5.prn.at_,prn]) ?_;rw[ai];refine⟨by simp[go_sem]<;>omega,?_⟩;rw[ai];refine⟨by simp[go_sem]<;>omega,?_⟩;rw[ai];refine⟨by simp[go_sem]<;>omega,?_⟩;obtain⟨w2,X_6,G_6⟩:=Ut (j:=((inn:Nat):Int)) X5;rw[ae,aH];have e:(((inn+1:Nat):Int) - 1)=((inn:Nat):Int):=by omega
   refine⟨_,(congrArg (fun q=>kP h' (some (b,0+3)) [Value.int .i64 q]) e).trans w2,?_⟩;rw[ag,sbl];refine⟨b,lsl,l,u5,s6,inn,_,rfl,X_6,by omega,(by have hF:=F.2;have hA:=congrArg List.length ha;simp only[List.length_append,List.length_cons,List.length_nil,jS] at hF hA ⊢;omega),fun u7 s8 k7 X7 G7=>?_⟩;refine rR ⟨[],[],[],[],[],[]⟩ rfl af rfl ?_;rw[ae,aK];intro b_8 hb_8;rw[ag,sb3];refine aW (ss:=[[125]]) X7 hb_8 (by have hF:=F.2;have hA:=congrArg List.length ha;simp only[List.length_append,List.length_cons,List.length_nil,List.flatten_cons,List.flatten_nil,jS] at hF hA ⊢;omega) (by simp) fun u8 s9 k8 X8 G8=>?_
   refine rR ⟨[],[],[],[],[],[]⟩ rfl af rfl ?_;rw[ak,ep];refine hφ u8 s9 k8 ?_ (((G5.trans G_6 X5.prn.nn).trans G7 X_6.prn.nn).trans G8 X7.prn.nn);rw[<- ha];simpa using X8
 | cons t rest=>
   rw[List.length_cons] at hlen;obtain⟨P1,hpa⟩:=uC PK hks5;have hW:=qC.app (show qC (pre++(t::rest)) by rw[<- hks5];exact hk);have hWt:JR t:=by cases hW;assumption
   have htn:t.n<=Tr.ns ks:=by rw[hks5,iZ,ay];omega
   rw[uO] at ha;rw[hj5] at hpa;obtain⟨q_5,y_5,hq_5,hj_5,hr_5⟩:=iH R5 j _ hpa;rw[aj,if_pos (by simp[go_sem];omega)];rw[ai];refine⟨by simp[go_sem,hq_5]<;>omega,?_⟩;refine rL ⟨[((p+1+Tr.ns pre:Nat):Int)],[],[],[],[],[]⟩ rfl af (by simpa[go_sem,hq_5] using hr_5) ?_;rw[ag,sbl];refine⟨b,lsl,l,u5,s6,inn+1,_,rfl,X5,by omega,(by have hF:=F.2;have hA:=congrArg List.length ha;simp only[List.length_append,List.length_cons,List.length_nil,jS] at hF hA ⊢;omega),fun u7 s8 k7 X7 G7=>?_⟩;refine rR ⟨[],[],[],[],[],[]⟩ rfl af rfl ?_;rw[ag,sas];refine⟨b,lsl,l,u7,s8,inn+1,_,p+1+Tr.ns pre,t,rfl,X7,P1,hWt,by omega,hl,by omega,⟨(by have hF:=F.2;have hA:=congrArg List.length ha;simp only[List.length_append,List.length_cons,List.length_nil,jS] at hF hA ⊢;omega),(by have hF:=F.2;have hA:=congrArg List.length ha;simp only[List.length_append,List.length_cons,List.length_nil,jS] at hF hA ⊢;omega)⟩,fun u8 s9 k8 X8 G8=>?_⟩;refine rR ⟨[],[],[],[],[],[]⟩ rfl af rfl ?_;rw[ai];refine⟨by simp[go_sem]<;>omega,?_⟩;rw[ae,says_again,ei,em];refine⟨⟨j+1,u8,s,s9,_,k8,pre++[t],rest,a++(Ud (inn+1)++stx (inn+1) t),rfl,by rw[hks5];simp,by simp[hj5],by simpa using X8,(G5.trans G7 X5.prn.nn).trans G8 X7.prn.nn,(R5.go X5.prn G7).go X7.prn G8,by rw[<- ha];simp⟩,?_⟩;show (((ks.length:Int) - ((j:Int)+1)).toNat)<M' 0;omega
theorem yI:∀ n,AP n/\HY n
 | 0=>by
   refine⟨?_,?_⟩
   . rintro args h φ w ⟨b,lsl,l,used,sl,inn,acc,p,t,rfl,X,P,W,hn,_⟩ hH;rw[mQ] at hn;omega
   . rintro args h φ w ⟨b,lsl,l,used,sl,inn,acc,p,t,rfl,X,P,W,hn,_⟩ hH;rw[mQ] at hn;omega
 | n+1=>⟨abM (yI n).2,adL (yI n).1⟩
def Tz:Fm:=(.Z 0
 (.Z 0
 (.O (.pt 0 0) 1 [(.sl (.x 0))] ⟨0,0,0,0,1,0⟩
 (.N (.X (.x 0) (.x 0))
 (.N (.nns (.x 0))
 (.O (.el (.x 0) (.x 0) 6 5) 1 [(.s (.x 0))] ⟨0,0,1,0,0,0⟩
 (.mk [(.s (.c [114,101,99,32])),(.s (.x 0)),(.s (.c [32,123]))] 9 3
 (.V 41 [.P 0,.L 1]
 (.C 38 [.P 0,.J 0] (.p (.L 2)) ⟨0,0,0,0,1,0⟩
 (.loop 0 ⟨[(.c 0)],[],[],[],[],[]⟩
 (.ite (.lt (.x 1) (.cnt (.x 2)))
 (.N (.X (.x 1) (.x 2))
 (.O (.el (.x 2) (.x 1) 1 0) 1 [.J 2] ⟨1,0,0,0,0,0⟩
 (.O (.pt 0 0) 1 [(.sl (.x 3))] ⟨0,0,0,0,1,0⟩
 (.O (.el (.x 3) (.x 2) 6 5) 1 [(.s (.x 1))] ⟨0,0,1,0,0,0⟩
 (.Z 0
 (.Z 0
 (.N (.X (.x 2) (.x 3))
 (.N (.nns (.x 3))
 (.N (.R (.add (.x 2) (.c 1)))
 (.callK (.c true) [((.c true),(.pt 0 0),1),((.c true),(.el (.x 3) (.x 2) 6 5),1)] 28 [.P 0,(.I (.add (.x 2) (.c 1)))] (.p (.S 2)) ⟨0,0,1,0,0,0⟩
 (.mk [(.s (.c [10,9])),(.s (.x 1)),(.s (.c [58,32])),(.s (.x 2)),(.s (.c [59]))] 9 5
 (.V 41 [.P 0,.L 4]
 (.N (.R (.add (.x 1) (.c 1)))
 (.again 0 ⟨1,0,1,0,3,1⟩ ⟨2,0,1,0,3,1⟩ ⟨[(.add (.x 1) (.c 1))],[],[],[],[],[]⟩))))))))))))))
 (.mk [(.s (.c [10,125]))] 9 1
 (.V 41 [.P 0,.L 3]
 .E)))))))))))))
theorem Zf:aZ ⟨true,[]⟩ Tryz.prog (fun l=>([⟨[21],[22,23,24,5,25,26,27,28,29,30,31,32,33,34,35,36,37,38,39,40],[]⟩]:List bK).getD l ⟨[],[],[]⟩) Tryz.f39=Tz:=by kernel_rfl
theorem adb:az Tryz.prog .zero Tryz.f39.params.toList=some ([.P 0,.J 0],⟨1,0,0,0,0,1⟩):=by kernel_rfl
theorem mF.cell {h:Hp} {b:Nat} {lsl sl:bM} {l:List Ng} {used:Bool} {inn:Int} {acc:List UInt8} (X:mF h b lsl l used sl inn acc) {p:Nat} {t:Tr} (P:Ps l p t):∃ c o,lsl.a=some (c,o)/\p<lsl.n/\hread h (some (c,o+p*6+5)) 1=some [.string (B t.g.x)]/\hread h (some (c,o+p*6+0)) 1=some [.int .u8 t.g.k]:=by
 obtain⟨hp,e⟩:=P.node;have hn:=NG.n X.row;obtain⟨c,o,ha⟩:=Rows.nn X.row (j:=p) (by omega);have r5:=Rows.read (off:=5) (m:=1) X.row (j:=p) (by omega) (by omega) ha;have r0:=Rows.read (off:=0) (m:=1) X.row (j:=p) (by omega) (by omega) ha;rw[<- List.drop_drop,jl hp,e] at r5 r0;exact⟨c,o,ha,by omega,r5,r0⟩
theorem mF.row0 {h:Hp} {b:Nat} {lsl sl:bM} {l:List Ng} {used:Bool} {inn:Int} {acc:List UInt8} (X:mF h b lsl l used sl inn acc):hread h (some (b,0+0)) 1=some [lsl.val]:=by
 rw[bz X.prn.at_];simp[_root_.Go.Proofs.YtllbpdllkkcajaaGreatDoor.prn]
def U1 (h:Hp) (b:Nat) (lsl:bM) (l:List Ng) (sl:bM) (inn:Int) (acc:List UInt8) (p:Nat) (x:List UInt8) (ks:List Tr) (_:Nat) (C:Ctx):Prop:=
 ∃ (j:Nat) (u:Bool) (s s' s3:bM) (k:Hp) (pre rest:List Tr) (a:List UInt8),C=⟨[(p:Int),(j:Int)],[],[x],[],[lsl,s3,s],[some (b,0)],k,df⟩/\ks=pre++rest/\pre.length=j/\mF k b lsl l u s' inn (acc++([114,101,99,32]++(x++([32,123]++a))))/\qB h k b sl s'/\iy k s (places ((p+1:Nat):Int) ks)/\a++oZ rest=oZ ks
theorem NM (x:List UInt8) (fs:List Tr):zX x fs=[114,101,99,32]++(x++([32,123]++(oZ fs++[10,125]))):=by simp[zX,jO]
set_option maxHeartbeats 8000000 in
def Yl:Ct Tryz.prog where
 f:=39
 spec:=fun args h φ=>∃ b lsl l used sl inn acc p ln c n x ks,args=[.pointer (some ⟨b,0,none⟩),.int .i64 (p:Nat)]/\mF h b lsl l used sl inn acc/\Ps l p (.nd 2 ln c n x ks)/\(∀ t∈ks,zB 3 t)/\l.length<=1000000/\Fits acc (zX x ks)/\Writes h b lsl l sl inn (acc++zX x ks) φ
 ok:=by
  rintro args h φ w ⟨b,lsl,l,used,sl,inn,acc,p,ln,c,n,x,ks,rfl,X,P,W,hl,F,hφ⟩ hH;refine bn Tryz.func39 Zf adb [ig,jR,lJ (kQ 1000000)] φ (U1 h b lsl l sl inn acc p x ks) (fun _ C=>((ks.length:Int) - C.i.getD 1 0).toNat) ⟨[((p:Nat):Int)],[],[],[],[],[some (b,0)],h,df⟩ ⟨rfl,rfl,rfl,rfl,rfl,rfl⟩ af ?_ w hH rfl;generalize hE:(⟨aG _,_,_,_⟩:Env)=E;have sb3:E.spec 41=(ig).spec:=by rw[<- hE];rfl
  have sb5:E.spec 38=(jR).spec:=by rw[<- hE];rfl
  have sa0:E.spec 28=(lJ (kQ 1000000)).spec:=by rw[<- hE];rfl
  have ep:E.post=φ:=by rw[<- hE]
  have ei:E.inv=(U1 h b lsl l sl inn acc p x ks):=by rw[<- hE]
  have em:E.meas=(fun _ C=>((ks.length:Int) - C.i.getD 1 0).toNat):=by rw[<- hE]
  clear hE;unfold Tz;obtain⟨c0,o0,ha0,hpn,hrx,_⟩:=X.cell P;obtain⟨hpl,hpt⟩:=P.node;have hlt:=P.lt;rw[iC] at hlt;have hks:=vI ks;have PK:=P.kids;rw[NM] at F hφ;rw[<- ae];rw[ai];refine⟨by simp[go_sem]<;>omega,?_⟩;rw[ai];refine⟨by simp[go_sem]<;>omega,?_⟩;refine rL ⟨[],[],[],[],[lsl],[]⟩ rfl af X.row0 ?_;rw[ai];refine⟨by simp[go_sem,ha0]<;>omega,?_⟩;rw[ai];refine⟨by simp[go_sem,ha0]<;>omega,?_⟩;refine rL ⟨[],[],[x],[],[],[]⟩ rfl af (by simpa[go_sem,ha0,Tr.g] using hrx) ?_;rw[ae,aK];intro b_1 hb_1;rw[ag,sb3];refine aW (ss:=[[114,101,99,32],x,[32,123]]) X hb_1 (by have hF:=F.2;simp only[List.length_append,List.length_cons,List.length_nil,List.flatten_cons,List.flatten_nil] at hF ⊢;omega) (by simp) fun u_1 s_1 k_1 X_1 G_1=>?_
  refine rR ⟨[],[],[],[],[],[]⟩ rfl af rfl ?_;rw[ag,sb5];refine⟨b,lsl,l,p,((Tr.ns ks:Nat):Int),ks.length,places ((p:Nat)+1) ks,_,_,rfl,X_1.prn.at_,X_1.row,hl,by omega,⟨l[p],List.getElem?_eq_getElem hpl,by rw[hpt];rfl⟩,by omega,by omega,P.iI (Nat.le_refl _),fun s k_3 hle ho hsn=>?_⟩;refine rR ⟨[],[],[],[],[s],[]⟩ rfl af rfl ?_;have R:=iy.own ho hsn;rw[show ((p:Nat):Int)+1=((p+1:Nat):Int) by omega] at R;have G_3:qB h k_3 b sl s_1:=G_1.trans ⟨fun c o _ _ hc=>hle c o hc,fun z hz=>.inl ⟨z,hz,rfl⟩⟩ X_1.prn.nn;have X_4:mF k_3 b lsl l u_1 s_1 inn (acc++([114,101,99,32]++(x++([32,123]++[])))):=by simpa using X_1.le hle
  rw[ae];refine lL ?_ ?_
  . rw[ei];exact⟨0,_,s,_,_,_,[],ks,[],rfl,rfl,rfl,X_4,G_3,R,by simp⟩
  rintro⟨xi,xb,xs,xv,xl,xp⟩ h' M' hc hinv hm hM1;rw[ei] at hinv;rw[em] at hm;obtain⟨j,u5,s5,s6,s7,k5,pre,rest,a,hC,hks5,hj5,X5,G5,R5,ha⟩:=hinv;simp[Ctx.push,Ctx.heap,Ctx.bare] at hC;obtain⟨rfl,rfl,rfl,rfl,⟨rfl,rfl,rfl⟩,rfl,rfl⟩:=hC;clear hc hM1 X_1 X_4 G_1 G_3 R ho hle;have hm':M' 0=((ks.length:Int) - (j:Int)).toNat:=hm;have hsn5:s.n=ks.length:=by rw[R5.n,dK]
  have hlen:ks.length=j+rest.length:=by rw[hks5,List.length_append,hj5]
  cases rest with
  | nil=>
    rw[List.length_nil] at hlen;rw[aj,if_neg (by simp[go_sem];omega)];rw[oZ,List.append_nil] at ha;rw[ae,aK];intro b_8 hb_8;rw[ag,sb3];refine aW (ss:=[[10,125]]) X5 hb_8 (by have hF:=F.2;have hA:=congrArg List.length ha;simp only[List.length_append,List.length_cons,List.length_nil,List.flatten_cons,List.flatten_nil] at hF hA ⊢;omega) (by simp) fun u8 s9 k8 X8 G8=>?_
    refine rR ⟨[],[],[],[],[],[]⟩ rfl af rfl ?_;rw[ak,ep];refine hφ u8 s9 k8 ?_ (G5.trans G8 X5.prn.nn);rw[<- ha];simpa using X8
  | cons t rest=>
    rw[List.length_cons] at hlen;obtain⟨P1,hpa⟩:=uC PK hks5;have hWt:zB 3 t:=W t (by rw[hks5];simp);cases hWt with
    | mk lt ct xt hx q hq=>
    have hftx:oZ (.nd 3 lt ct 0 xt [q]::rest)=[10,9]++(xt++([58,32]++(kK q++([59]++oZ rest)))):=by simp[oZ,OH]
    rw[hftx] at ha;rw[hj5] at hpa;have P2:=P1.kids.cons.1;have hkp:pU l 1000000 (p+1+Tr.ns pre+1)=some (kK q):=lC hq P2 (by have:=P2.lt;omega);generalize kK q=kt at ha hkp;obtain⟨q_5,y_5,hq_5,hj_5,hr_5⟩:=iH R5 j _ hpa;have hlt1:=P1.lt;obtain⟨c6,o6,ha6,hp6,hx6,_⟩:=X5.cell P1;rw[aj,if_pos (by simp[go_sem];omega)];rw[ai];refine⟨by simp[go_sem,hq_5]<;>omega,?_⟩;refine rL ⟨[((p+1+Tr.ns pre:Nat):Int)],[],[],[],[],[]⟩ rfl af (by simpa[go_sem,hq_5] using hr_5) ?_;refine rL ⟨[],[],[],[],[lsl],[]⟩ rfl af X5.row0 ?_;refine rL ⟨[],[],[xt],[],[],[]⟩ rfl af ((congrArg (fun q=>hread h' q 1) (show _=some (c6,o6+(p+1+Tr.ns pre)*6+5) by simp[go_sem,ha6];omega)).trans hx6) ?_;rw[ai];refine⟨by simp[go_sem]<;>omega,?_⟩;rw[ai];refine⟨by simp[go_sem]<;>omega,?_⟩;rw[ai];refine⟨by simp[go_sem,ha6]<;>omega,?_⟩;rw[ai];refine⟨by simp[go_sem,ha6]<;>omega,?_⟩;rw[ai];refine⟨by simp[go_sem]<;>omega,?_⟩;rw[ae,aI,if_pos (by rfl),sa0];refine⟨b,lsl,l,p+1+Tr.ns pre+1,kt,_,_,rfl,X5.prn.at_,X5.row,hl,hkp,?_,?_⟩
    . have hF:=F.2;have hA:=congrArg List.length ha;simp only[List.length_append] at hF hA;omega
    refine⟨fun _ _ _=>rfl,(bQ _ _).2 ⟨⟨[],[],[kt],[],[],[]⟩,rfl,af,rfl,?_⟩⟩;rw[ae,aK];intro b_6 hb_6;rw[ag,sb3];refine aW (ss:=[[10,9],xt,[58,32],kt,[59]]) X5 hb_6 (by have hF:=F.2;have hA:=congrArg List.length ha;simp only[List.length_append,List.length_cons,List.length_nil,List.flatten_cons,List.flatten_nil] at hF hA ⊢;omega) (by simp) fun u8 s9 k8 X8 G8=>?_
    refine rR ⟨[],[],[],[],[],[]⟩ rfl af rfl ?_;rw[ai];refine⟨by simp[go_sem]<;>omega,?_⟩;rw[ae,says_again,ei,em];refine⟨⟨j+1,u8,s,s9,_,k8,pre++[.nd 3 lt ct 0 xt [q]],rest,a++([10,9]++(xt++([58,32]++(kt++[59])))),rfl,by rw[hks5];simp,by simp[hj5],by simpa using X8,G5.trans G8 X5.prn.nn,R5.go X5.prn G8,by rw[<- ha];simp⟩,?_⟩;show (((ks.length:Int) - ((j:Int)+1)).toNat)<M' 0;omega
def YL:Fm:=(.Z 0
 (.Z 0
 (.O (.pt 0 0) 1 [(.sl (.x 0))] ⟨0,0,0,0,1,0⟩
 (.N (.X (.x 0) (.x 0))
 (.N (.nns (.x 0))
 (.O (.el (.x 0) (.x 0) 6 5) 1 [(.s (.x 0))] ⟨0,0,1,0,0,0⟩
 (.mk [(.s (.c [102,110,32])),(.s (.x 0)),(.s (.c [40]))] 9 3
 (.V 41 [.P 0,.L 1]
 (.C 38 [.P 0,.J 0] (.p (.L 2)) ⟨0,0,0,0,1,0⟩
 (.N (.R (.sub (.cnt (.x 2)) (.c 2)))
 (.N (.and (.and (.le (.c 0) (.sub (.cnt (.x 2)) (.c 2))) (.le (.sub (.cnt (.x 2)) (.c 2)) (.cap (.x 2)))) (.and (.le (.c 0) (.c 0)) (.le (.c 0) (.sub (.cnt (.x 2)) (.c 2)))))
 (.loop 0 ⟨[(.c 0)],[],[],[],[],[]⟩
 (.ite (.lt (.x 1) (.cnt (.sub (.x 2) (.c 0) (.sub (.cnt (.x 2)) (.c 2)) 1)))
 (.N (.and (.and (.le (.c 0) (.x 1)) (.lt (.x 1) (.cnt (.sub (.x 2) (.c 0) (.sub (.cnt (.x 2)) (.c 2)) 1)))) (.nns (.sub (.x 2) (.c 0) (.sub (.cnt (.x 2)) (.c 2)) 1)))
 (.O (.el (.sub (.x 2) (.c 0) (.sub (.cnt (.x 2)) (.c 2)) 1) (.x 1) 1 0) 1 [.J 2] ⟨1,0,0,0,0,0⟩
 (.ite (.lt (.c 0) (.x 1))
 (.mk [(.s (.c [44,32]))] 9 1
 (.V 41 [.P 0,.L 3]
 (.O (.pt 0 0) 1 [(.sl (.x 4))] ⟨0,0,0,0,1,0⟩
 (.O (.el (.x 4) (.x 2) 6 5) 1 [(.s (.x 1))] ⟨0,0,1,0,0,0⟩
 (.Z 0
 (.Z 0
 (.N (.X (.x 2) (.x 4))
 (.N (.nns (.x 4))
 (.N (.R (.add (.x 2) (.c 1)))
 (.callK (.c true) [((.c true),(.pt 0 0),1),((.c true),(.el (.x 4) (.x 2) 6 5),1)] 28 [.P 0,(.I (.add (.x 2) (.c 1)))] (.p (.S 2)) ⟨0,0,1,0,0,0⟩
 (.mk [(.s (.x 1)),(.s (.c [58,32])),(.s (.x 2))] 9 3
 (.V 41 [.P 0,.L 5]
 (.N (.R (.add (.x 1) (.c 1)))
 (.again 0 ⟨1,0,1,0,3,1⟩ ⟨2,0,1,0,3,1⟩ ⟨[(.add (.x 1) (.c 1))],[],[],[],[],[]⟩))))))))))))))
 (.O (.pt 0 0) 1 [(.sl (.x 3))] ⟨0,0,0,0,1,0⟩
 (.O (.el (.x 3) (.x 2) 6 5) 1 [(.s (.x 1))] ⟨0,0,1,0,0,0⟩
 (.Z 0
 (.Z 0
 (.N (.X (.x 2) (.x 3))
 (.N (.nns (.x 3))
 (.N (.R (.add (.x 2) (.c 1)))
 (.callK (.c true) [((.c true),(.pt 0 0),1),((.c true),(.el (.x 3) (.x 2) 6 5),1)] 28 [.P 0,(.I (.add (.x 2) (.c 1)))] (.p (.S 2)) ⟨0,0,1,0,0,0⟩
 (.mk [(.s (.x 1)),(.s (.c [58,32])),(.s (.x 2))] 9 3
 (.V 41 [.P 0,.L 4]
 (.N (.R (.add (.x 1) (.c 1)))
 (.again 0 ⟨1,0,1,0,3,1⟩ ⟨2,0,1,0,3,1⟩ ⟨[(.add (.x 1) (.c 1))],[],[],[],[],[]⟩)))))))))))))))
 (.mk [(.s (.c [41]))] 9 1
 (.V 41 [.P 0,.L 3]
 (.O (.pt 0 0) 1 [(.sl (.x 4))] ⟨0,0,0,0,1,0⟩
 (.O (.el (.x 2) (.sub (.cnt (.x 2)) (.c 2)) 1 0) 1 [.J 2] ⟨1,0,0,0,0,0⟩
 (.Z 0
 (.Z 0
 (.N (.X (.sub (.cnt (.x 2)) (.c 2)) (.x 2))
 (.N (.X (.x 2) (.x 4))
 (.N (.nns (.x 4))
 (.O (.el (.x 4) (.x 2) 6 0) 1 [.U 3] ⟨1,0,0,0,0,0⟩
 (.ite (.not (.eqI (.x 3) (.c 14)))
 (.N (.X (.sub (.cnt (.x 2)) (.c 2)) (.x 2))
 (.O (.el (.x 2) (.sub (.cnt (.x 2)) (.c 2)) 1 0) 1 [.J 4] ⟨1,0,0,0,0,0⟩
 (.C 28 [.P 0,.J 4] (.p (.S 1)) ⟨0,0,1,0,0,0⟩
 (.mk [(.s (.c [58,32])),(.s (.x 1))] 9 2
 (.V 41 [.P 0,.L 5]
 (.mk [(.s (.c [32]))] 9 1
 (.V 41 [.P 0,.L 6]
 (.N (.R (.add (.sub (.cnt (.x 2)) (.c 2)) (.c 1)))
 (.N (.X (.add (.sub (.cnt (.x 2)) (.c 2)) (.c 1)) (.x 2))
 (.O (.el (.x 2) (.add (.sub (.cnt (.x 2)) (.c 2)) (.c 1)) 1 0) 1 [.J 5] ⟨1,0,0,0,0,0⟩
 (.V 67 [.P 0,.J 5]
 .E)))))))))))
 (.mk [(.s (.c [32]))] 9 1
 (.V 41 [.P 0,.L 5]
 (.N (.R (.add (.sub (.cnt (.x 2)) (.c 2)) (.c 1)))
 (.N (.X (.add (.sub (.cnt (.x 2)) (.c 2)) (.c 1)) (.x 2))
 (.O (.el (.x 2) (.add (.sub (.cnt (.x 2)) (.c 2)) (.c 1)) 1 0) 1 [.J 4] ⟨1,0,0,0,0,0⟩
 (.V 67 [.P 0,.J 4]
 .E))))))))))))))))))))))))))))))
theorem acr:aZ ⟨true,[]⟩ Tryz.prog (fun l=>([⟨[29],[30,31,32,33,6,7,34,35,36,37,38,39,40,41,42,43,44,45,46,47,48,49,50,51,52,53,54],[]⟩]:List bK).getD l ⟨[],[],[]⟩) Tryz.f40=YL:=by kernel_rfl
theorem afc:az Tryz.prog .zero Tryz.f40.params.toList=some ([.P 0,.J 0],⟨1,0,0,0,0,1⟩):=by kernel_rfl
def Rt (h:Hp) (b:Nat) (lsl:bM) (l:List Ng) (sl:bM) (inn:Int) (acc:List UInt8) (p:Nat) (x:List UInt8) (ps:List Tr) (r d:Tr) (_:Nat) (C:Ctx):Prop:=
 ∃ (j:Nat) (u:Bool) (s s' s3:bM) (k:Hp) (pre rest:List Tr) (a:List UInt8),C=⟨[(p:Int),(j:Int)],[],[x],[],[lsl,s3,s],[some (b,0)],k,df⟩/\ps=pre++rest/\pre.length=j/\mF k b lsl l u s' inn (acc++([102,110,32]++(x++([40]++a))))/\qB h k b sl s'/\iy k s (places ((p+1:Nat):Int) (ps++[r,d]))/\a++(if j=0 then qm rest else qo rest)=qm ps
theorem Oy (x:List UInt8) (ps:List Tr) (r d:Tr):EL x ps r d=[102,110,32]++(x++([40]++(qm ps++([41]++((if r.k=14 then [] else [58,32]++kK r)++([32]++uu 0 d)))))):=by
 simp only[EL,vS];split<;>simp
theorem aaF (j:Nat) (lt ct:Int) (xt:List UInt8) (q:Tr) (rest:List Tr):(if j=0 then qm (.nd 5 lt ct 0 xt [q]::rest) else qo (.nd 5 lt ct 0 xt [q]::rest))=(if j=0 then [] else [44,32])++(xt++([58,32]++(kK q++qo rest))):=by
 split<;>simp[qm,qo,OH]
set_option maxHeartbeats 16000000 in
def adW:Ct Tryz.prog where
 f:=40
 spec:=fun args h φ=>∃ b lsl l used sl acc p ln c n x ps r d,args=[.pointer (some ⟨b,0,none⟩),.int .i64 (p:Nat)]/\mF h b lsl l used sl ((0:Nat):Int) acc/\Ps l p (.nd 4 ln c n x (ps++[r,d]))/\(∀ t∈ps,zB 5 t)/\(r.k=14\/yK r)/\JQ d/\l.length<=1000000/\Fits acc (EL x ps r d)/\Writes h b lsl l sl ((0:Nat):Int) (acc++EL x ps r d) φ
 ok:=by
  rintro args h φ w ⟨b,lsl,l,used,sl,acc,p,ln,c,n,x,ps,r,d,rfl,X,P,W,WR,WD,hl,F,hφ⟩ hH;refine bn Tryz.func40 acr afc [ig,jR,lJ (kQ 1000000),Ir (yI 1000000).2] φ (Rt h b lsl l sl ((0:Nat):Int) acc p x ps r d) (fun _ C=>((ps.length:Int) - C.i.getD 1 0).toNat) ⟨[((p:Nat):Int)],[],[],[],[],[some (b,0)],h,df⟩ ⟨rfl,rfl,rfl,rfl,rfl,rfl⟩ af ?_ w hH rfl;generalize hE:(⟨aG _,_,_,_⟩:Env)=E;have sb3:E.spec 41=(ig).spec:=by rw[<- hE];rfl
  have sb5:E.spec 38=(jR).spec:=by rw[<- hE];rfl
  have sa0:E.spec 28=(lJ (kQ 1000000)).spec:=by rw[<- hE];rfl
  have sah:E.spec 67=(Ir (yI 1000000).2).spec:=by rw[<- hE];rfl
  have ep:E.post=φ:=by rw[<- hE]
  have ei:E.inv=(Rt h b lsl l sl ((0:Nat):Int) acc p x ps r d):=by rw[<- hE]
  have em:E.meas=(fun _ C=>((ps.length:Int) - C.i.getD 1 0).toNat):=by rw[<- hE]
  clear hE;unfold YL;obtain⟨c0,o0,ha0,hpn,hrx,_⟩:=X.cell P;obtain⟨hpl,hpt⟩:=P.node;have hlt:=P.lt;rw[iC] at hlt;have PK:=P.kids;have hks:=vI (ps++[r,d]);have hkl:(ps++[r,d]).length=ps.length+2:=by simp
  rw[Oy] at F hφ;rw[<- ae];rw[ai];refine⟨by simp[go_sem]<;>omega,?_⟩;rw[ai];refine⟨by simp[go_sem]<;>omega,?_⟩;refine rL ⟨[],[],[],[],[lsl],[]⟩ rfl af X.row0 ?_;rw[ai];refine⟨by simp[go_sem,ha0]<;>omega,?_⟩;rw[ai];refine⟨by simp[go_sem,ha0]<;>omega,?_⟩;refine rL ⟨[],[],[x],[],[],[]⟩ rfl af (by simpa[go_sem,ha0,Tr.g] using hrx) ?_;rw[ae,aK];intro b_1 hb_1;rw[ag,sb3];refine aW (ss:=[[102,110,32],x,[40]]) X hb_1 (by have hF:=F.2;simp only[List.length_append,List.length_cons,List.length_nil,List.flatten_cons,List.flatten_nil] at hF ⊢;omega) (by simp) fun u_1 s_1 k_1 X_1 G_1=>?_
  refine rR ⟨[],[],[],[],[],[]⟩ rfl af rfl ?_;rw[ag,sb5];refine⟨b,lsl,l,p,((Tr.ns (ps++[r,d]):Nat):Int),(ps++[r,d]).length,places ((p:Nat)+1) (ps++[r,d]),_,_,rfl,X_1.prn.at_,X_1.row,hl,by omega,⟨l[p],List.getElem?_eq_getElem hpl,by rw[hpt];rfl⟩,by omega,by omega,P.iI (Nat.le_refl _),fun s k_3 hle ho hsn=>?_⟩;refine rR ⟨[],[],[],[],[s],[]⟩ rfl af rfl ?_;have R:=iy.own ho hsn;rw[show ((p:Nat):Int)+1=((p+1:Nat):Int) by omega] at R;have G_3:qB h k_3 b sl s_1:=G_1.trans ⟨fun c o _ _ hc=>hle c o hc,fun z hz=>.inl ⟨z,hz,rfl⟩⟩ X_1.prn.nn;have X_4:mF k_3 b lsl l u_1 s_1 ((0:Nat):Int) (acc++([102,110,32]++(x++([40]++[])))):=by simpa using X_1.le hle
  have hsn4:s.n=ps.length+2:=by rw[R.n,dK,hkl]
  have hsc:=R.c;rw[ai];refine⟨by simp[go_sem]<;>omega,?_⟩;rw[ai];refine⟨by simp[go_sem]<;>omega,?_⟩;rw[ae];refine lL ?_ ?_
  . rw[ei];exact⟨0,_,s,_,_,_,[],ps,[],rfl,rfl,rfl,X_4,G_3,R,by simp⟩
  rintro⟨xi,xb,xs,xv,xl,xp⟩ h' M' hc hinv hm hM1;rw[ei] at hinv;rw[em] at hm;obtain⟨j,u5,s5,s6,s7,k5,pre,rest,a,hC,hks5,hj5,X5,G5,R5,ha⟩:=hinv;simp[Ctx.push,Ctx.heap,Ctx.bare] at hC;obtain⟨rfl,rfl,rfl,rfl,⟨rfl,rfl,rfl⟩,rfl,rfl⟩:=hC;clear hc hM1 X_1 X_4 G_1 G_3 R ho hle;have hm':M' 0=((ps.length:Int) - (j:Int)).toNat:=hm;have hlen:ps.length=j+rest.length:=by rw[hks5,List.length_append,hj5]
  cases rest with
  | nil=>
    rw[List.length_nil] at hlen;have hz:¬ ((j:Int)<(((s.n:Int) - 2).toNat - 0:Nat)):=by omega
    rw[aj,if_neg (by simpa[go_sem] using hz)];have ha:a=qm ps:=by
     rw[<- ha];split<;>simp[qm,qo]
    subst ha;obtain⟨PR,hpr⟩:=uC (pre:=ps) (rest:=[d]) PK rfl;obtain⟨PD,hpd⟩:=uC (t:=d) (pre:=ps++[r]) (rest:=[]) PK (by simp);rw[List.length_append,List.length_singleton] at hpd;rw[iZ,ay,aQ] at PD hpd;have hltd:=PD.lt;rw[ae,aK];intro b_6 hb_6;rw[ag,sb3];refine aW (ss:=[[41]]) X5 hb_6 (by have hF:=F.2;simp only[List.length_append,List.length_cons,List.length_nil,List.flatten_cons,List.flatten_nil] at hF ⊢;omega) (by simp) fun u6 s8 k6 X6 G6=>?_
    refine rR ⟨[],[],[],[],[],[]⟩ rfl af rfl ?_;have R6:=R5.go X5.prn G6;obtain⟨q_6,y_6,hq_6,hj_6,hr_6⟩:=iH R6 ps.length _ hpr;obtain⟨c6,o6,ha6,hp6,_,hk6⟩:=X6.cell PR;have hz1:((s.n:Int) - 2).toNat=ps.length:=by omega
    have rdR:∀ k',hread k' (some (q_6,y_6+ps.length*1+0)) 1=some [.int .i64 ((p+1+Tr.ns ps:Nat):Int)]->s.a=some (q_6,y_6)->hread k' (s.a.map fun x=>(x.1,x.2+((s.n:Int) - 2).toNat*1+0)) 1=some [.int .i64 ((p+1+Tr.ns ps:Nat):Int)]:=fun k' h1 h2=>by rw[h2,hz1];exact h1
    refine rL ⟨[],[],[],[],[lsl],[]⟩ rfl af X6.row0 ?_;refine rL ⟨[((p+1+Tr.ns ps:Nat):Int)],[],[],[],[],[]⟩ rfl af (rdR _ hr_6 hq_6) ?_;rw[ai];refine⟨by simp[go_sem]<;>omega,?_⟩;rw[ai];refine⟨by simp[go_sem]<;>omega,?_⟩;rw[ai];refine⟨by simp[go_sem,hq_6]<;>omega,?_⟩;rw[ai];refine⟨by simp[go_sem,ha6]<;>omega,?_⟩;rw[ai];refine⟨by simp[go_sem,ha6]<;>omega,?_⟩;refine rL ⟨[r.k],[],[],[],[],[]⟩ rfl af (?_) ?_
    . refine (congrArg (fun q=>hread k6 q 1) (show _=some (c6,o6+(p+1+Tr.ns ps)*6+0) by simp[go_sem,ha6];omega)).trans (hk6.trans ?_);obtain⟨rk,rl,rc,rn,rx,rks⟩:=r;rfl
    have tail:∀ (u7:Bool) (s9:bM) (k7:Hp) (m:List UInt8),m=(if r.k=14 then [] else [58,32]++kK r)->mF k7 b lsl l u7 s9 ((0:Nat):Int) (acc++([102,110,32]++(x++([40]++(qm ps++([41]++(m++[32])))))))->qB h k7 b sl s9->iy k7 s (places ((p+1:Nat):Int) (ps++[r,d]))->
     ∀ (i:List Int) (ss:List (List UInt8)) (L:List bM) (M:Nat->Nat) (z:Nat),i.length=z->Then E (.N (.R (.add (.sub (.cnt (.x 2)) (.c 2)) (.c 1)))
      (.N (.X (.add (.sub (.cnt (.x 2)) (.c 2)) (.c 1)) (.x 2))
      (.O (.el (.x 2) (.add (.sub (.cnt (.x 2)) (.c 2)) (.c 1)) 1 0) 1 [(.i .i64 (.x z))] ⟨1,0,0,0,0,0⟩
      (.V 67 [.P 0,(.I (.x z))]
      .E)))) ⟨i,[],ss,[],lsl::⟨some (b_1,0),3,3⟩::s::L,[some (b,0)],k7,M⟩:=by
     intro u7 s9 k7 m hm7 X7 G7 R7 i ss L M z hz7;obtain⟨q_7,y_7,hq_7,hj_7,hr_7⟩:=iH R7 (ps.length+1) _ hpd;rw[ai];refine⟨by simp[go_sem]<;>omega,?_⟩;rw[ai];refine⟨by simp[go_sem,hq_7]<;>omega,?_⟩;rw[ae];have hz2:((s.n:Int) - 2+1).toNat=ps.length+1:=by omega
     have rd7:hread k7 (s.a.map fun x=>(x.1,x.2+((s.n:Int) - 2+1).toNat*1+0)) 1=some [.int .i64 ((p+1+(Tr.ns ps+(r.n+0)):Nat):Int)]:=by rw[hq_7,hz2];exact hr_7
     refine ww hz7 (fun _=>⟨_,rd7⟩) fun v hv=>?_
     have hv':hread k7 (s.a.map fun x=>(x.1,x.2+((s.n:Int) - 2+1).toNat*1+0)) 1=some [.int .i64 v]:=hv rfl;obtain rfl:((p+1+(Tr.ns ps+(r.n+0)):Nat):Int)=v:=by
      rw[rd7] at hv';simpa using hv'
     rw[ag,sah];refine⟨b,lsl,l,u7,s9,0,_,p+1+(Tr.ns ps+(r.n+0)),d,?_,X7,PD,WD,by omega,hl,by omega,?_,fun u8 s10 k8 X8 G8=>?_⟩
     . simp[go_sem,<- hz7]
     . subst hm7;exact⟨(by have hF:=F.2;simp only[List.length_append,List.length_cons,List.length_nil] at hF ⊢;omega),(by have hF:=F.2;simp only[List.length_append,List.length_cons,List.length_nil] at hF ⊢;omega)⟩
     refine rR ⟨[],[],[],[],[],[]⟩ rfl af rfl ?_;rw[ak,ep];refine hφ u8 s10 k8 ?_ (G7.trans G8 X7.prn.nn);subst hm7;simpa using X8
    by_cases hr14:r.k=14
    . rw[ah,if_neg (by simp[go_sem,hr14])];rw[if_pos hr14] at F;rw[ae,aK];intro b_7 hb_7;rw[ag,sb3];refine aW (ss:=[[32]]) X6 hb_7 (by have hF:=F.2;simp only[List.length_append,List.length_cons,List.length_nil,List.flatten_cons,List.flatten_nil] at hF ⊢;omega) (by simp) fun u7 s9 k7 X7 G7=>?_
      refine rR ⟨[],[],[],[],[],[]⟩ rfl af rfl ?_;exact tail u7 s9 k7 [] (by rw[if_pos hr14]) (by simpa using X7) ((G5.trans G6 X5.prn.nn).trans G7 X6.prn.nn) (R6.go X6.prn G7) _ _ _ _ _ rfl
    . have hwr:yK r:=WR.resolve_left hr14;have hkp:pU l 1000000 (p+1+Tr.ns ps)=some (kK r):=lC hwr PR (by have:=PR.lt;omega);rw[if_neg hr14] at F;rw[ah,if_pos (by simpa[go_sem] using hr14)];rw[ai];refine⟨by simp[go_sem,hq_6]<;>omega,?_⟩;refine rL ⟨[((p+1+Tr.ns ps:Nat):Int)],[],[],[],[],[]⟩ rfl af (rdR _ hr_6 hq_6) ?_;rw[ag,sa0];refine⟨b,lsl,l,p+1+Tr.ns ps,kK r,_,_,rfl,X6.prn.at_,X6.row,hl,hkp,?_,?_⟩
      . have hF:=F.2;simp only[List.length_append] at hF;omega
      refine rR ⟨[],[],[kK r],[],[],[]⟩ rfl af rfl ?_;rw[ae,aK];intro b_7 hb_7;rw[ag,sb3];refine aW (ss:=[[58,32],kK r]) X6 hb_7 (by have hF:=F.2;simp only[List.length_append,List.length_cons,List.length_nil,List.flatten_cons,List.flatten_nil] at hF ⊢;omega) (by simp) fun u7 s9 k7 X7 G7=>?_
      refine rR ⟨[],[],[],[],[],[]⟩ rfl af rfl ?_;rw[ae,aK];intro b_8 hb_8;rw[ag,sb3];refine aW (ss:=[[32]]) X7 hb_8 (by have hF:=F.2;simp only[List.length_append,List.length_cons,List.length_nil,List.flatten_cons,List.flatten_nil] at hF ⊢;omega) (by simp) fun u8 s10 k8 X8 G8=>?_
      refine rR ⟨[],[],[],[],[],[]⟩ rfl af rfl ?_;exact tail u8 s10 k8 ([58,32]++kK r) (by rw[if_neg hr14]) (by simpa using X8) (((G5.trans G6 X5.prn.nn).trans G7 X6.prn.nn).trans G8 X7.prn.nn) ((R6.go X6.prn G7).go X7.prn G8) _ _ _ _ _ rfl
  | cons t rest=>
    rw[List.length_cons] at hlen;have eks:ps++[r,d]=pre++t::(rest++[r,d]):=by rw[hks5];simp
    obtain⟨P1,hpa⟩:=uC PK eks;have hWt:zB 5 t:=W t (by rw[hks5];simp);cases hWt with
    | mk lt ct xt hx q hq=>
    rw[aaF] at ha;rw[hj5] at hpa;have P2:=P1.kids.cons.1;have hkp:pU l 1000000 (p+1+Tr.ns pre+1)=some (kK q):=lC hq P2 (by have:=P2.lt;omega);have hlt1:=P1.lt;have hz:(j:Int)<(((s.n:Int) - 2).toNat - 0:Nat):=by omega
    have hnext:∀ (u8:Bool) (s9:bM) (k8:Hp) (s7':bM),mF k8 b lsl l u8 s9 ((0:Nat):Int) (acc++([102,110,32]++(x++([40]++(a++((if j=0 then [] else [44,32])++(xt++([58,32]++kK q))))))))->qB h k8 b sl s9->iy k8 s (places ((p+1:Nat):Int) (ps++[r,d]))->Rt h b lsl l sl ((0:Nat):Int) acc p x ps r d 0 ⟨[(p:Int),(j:Int)+1],[],[x],[],[lsl,s7',s],[some (b,0)],k8,df⟩:=fun u8 s9 k8 s7' X8 G8 R8=>
     ⟨j+1,u8,s,s9,s7',k8,pre++[.nd 5 lt ct 0 xt [q]],rest,a++((if j=0 then [] else [44,32])++(xt++([58,32]++kK q))),rfl,by rw[hks5];simp,by simp[hj5],X8,G8,R8,by rw[<- ha,if_neg (Nat.succ_ne_zero j)];simp⟩
    obtain⟨q_5,y_5,hq_5,hj_5,hr_5⟩:=iH R5 j _ hpa;rw[aj,if_pos (by simpa[go_sem] using hz),ae];refine iL (fun _=>by simp[go_sem,hq_5];omega) ?_;refine rL ⟨[((p+1+Tr.ns pre:Nat):Int)],[],[],[],[],[]⟩ rfl af ((congrArg (fun q=>hread h' q 1) (show _=some (q_5,y_5+j*1+0) by simp[go_sem,hq_5])).trans hr_5) ?_;by_cases hj0:j=0
    . have hz0:¬ ((0:Int)<(j:Int)):=by omega
      rw[if_pos hj0] at ha hnext;rw[ah,if_neg (by simpa[go_sem] using hz0)];obtain⟨c6,o6,ha6,hp6,hx6,_⟩:=X5.cell P1;refine rL ⟨[],[],[],[],[lsl],[]⟩ rfl af X5.row0 ?_;refine rL ⟨[],[],[xt],[],[],[]⟩ rfl af ((congrArg (fun q=>hread h' q 1) (show _=some (c6,o6+(p+1+Tr.ns pre)*6+5) by simp[go_sem,ha6];omega)).trans hx6) ?_;rw[ai];refine⟨by simp[go_sem]<;>omega,?_⟩;rw[ai];refine⟨by simp[go_sem]<;>omega,?_⟩;rw[ai];refine⟨by simp[go_sem,ha6]<;>omega,?_⟩;rw[ai];refine⟨by simp[go_sem,ha6]<;>omega,?_⟩;rw[ai];refine⟨by simp[go_sem]<;>omega,?_⟩;rw[ae,aI,if_pos (by rfl),sa0];refine⟨b,lsl,l,p+1+Tr.ns pre+1,kK q,_,_,rfl,X5.prn.at_,X5.row,hl,hkp,?_,?_⟩
      . have hF:=F.2;have hA:=congrArg List.length ha;simp only[List.length_append] at hF hA;omega
      refine⟨fun _ _ _=>rfl,(bQ _ _).2 ⟨⟨[],[],[kK q],[],[],[]⟩,rfl,af,rfl,?_⟩⟩;rw[ae,aK];intro b_7 hb_7;rw[ag,sb3];refine aW (ss:=[xt,[58,32],kK q]) X5 hb_7 (by have hF:=F.2;have hA:=congrArg List.length ha;simp only[List.length_append,List.length_cons,List.length_nil,List.flatten_cons,List.flatten_nil] at hF hA ⊢;omega) (by simp) fun u8 s9 k8 X8 G8=>?_
      refine rR ⟨[],[],[],[],[],[]⟩ rfl af rfl ?_;rw[ai];refine⟨by simp[go_sem]<;>omega,?_⟩;rw[ae,says_again,ei,em];refine⟨hnext u8 s9 k8 _ (by simpa using X8) (G5.trans G8 X5.prn.nn) (R5.go X5.prn G8),?_⟩;show (((ps.length:Int) - ((j:Int)+1)).toNat)<M' 0;omega
    . have hz0:(0:Int)<(j:Int):=by omega
      rw[if_neg hj0] at ha hnext;rw[ah,if_pos (by simpa[go_sem] using hz0)];rw[ae,aK];intro b_6 hb_6;rw[ag,sb3];refine aW (ss:=[[44,32]]) X5 hb_6 (by have hF:=F.2;have hA:=congrArg List.length ha;simp only[List.length_append,List.length_cons,List.length_nil,List.flatten_cons,List.flatten_nil] at hF hA ⊢;omega) (by simp) fun u6 s8 k6 X6 G6=>?_
      refine rR ⟨[],[],[],[],[],[]⟩ rfl af rfl ?_;obtain⟨c6,o6,ha6,hp6,hx6,_⟩:=X6.cell P1;refine rL ⟨[],[],[],[],[lsl],[]⟩ rfl af X6.row0 ?_;refine rL ⟨[],[],[xt],[],[],[]⟩ rfl af ((congrArg (fun q=>hread k6 q 1) (show _=some (c6,o6+(p+1+Tr.ns pre)*6+5) by simp[go_sem,ha6];omega)).trans hx6) ?_;rw[ai];refine⟨by simp[go_sem]<;>omega,?_⟩;rw[ai];refine⟨by simp[go_sem]<;>omega,?_⟩;rw[ai];refine⟨by simp[go_sem,ha6]<;>omega,?_⟩;rw[ai];refine⟨by simp[go_sem,ha6]<;>omega,?_⟩;rw[ai];refine⟨by simp[go_sem]<;>omega,?_⟩;rw[ae,aI,if_pos (by rfl),sa0];refine⟨b,lsl,l,p+1+Tr.ns pre+1,kK q,_,_,rfl,X6.prn.at_,X6.row,hl,hkp,?_,?_⟩
      . have hF:=F.2;have hA:=congrArg List.length ha;simp only[List.length_append] at hF hA;omega
      refine⟨fun _ _ _=>rfl,(bQ _ _).2 ⟨⟨[],[],[kK q],[],[],[]⟩,rfl,af,rfl,?_⟩⟩;rw[ae,aK];intro b_7 hb_7;rw[ag,sb3];refine aW (ss:=[xt,[58,32],kK q]) X6 hb_7 (by have hF:=F.2;have hA:=congrArg List.length ha;simp only[List.length_append,List.length_cons,List.length_nil,List.flatten_cons,List.flatten_nil] at hF hA ⊢;omega) (by simp) fun u8 s9 k8 X8 G8=>?_
      refine rR ⟨[],[],[],[],[],[]⟩ rfl af rfl ?_;rw[ai];refine⟨by simp[go_sem]<;>omega,?_⟩;rw[ae,says_again,ei,em];refine⟨hnext u8 s9 k8 _ (by simpa using X8) ((G5.trans G6 X5.prn.nn).trans G8 X6.prn.nn) ((R5.go X5.prn G6).go X6.prn G8),?_⟩;show (((ps.length:Int) - ((j:Int)+1)).toNat)<M' 0;omega
def IB:Fm:=(.C 23 [.L 0] (.p (.B 0)) ⟨0,1,0,0,0,0⟩
 (.need (.x 0) (.X (.c 0) (.x 0))
 (.need (.x 0) (.nns (.x 0))
 (.load (.x 0) (.el (.x 0) (.c 0) 6 0) 1 [.U 0] ⟨1,0,0,0,0,0⟩
 (.need (.not (.or (.not (.x 0)) (.not (.eqI (.x 0) (.c 1))))) (.X (.c 0) (.x 0))
 (.load (.not (.or (.not (.x 0)) (.not (.eqI (.x 0) (.c 1))))) (.el (.x 0) (.c 0) 6 0) 6 [.U 1,.J 2,.J 3,.J 4,.J 5,(.s (.x 0))] ⟨5,0,1,0,0,0⟩
 (.call (.not (.or (.not (.x 0)) (.not (.eqI (.x 0) (.c 1))))) false 49 [(.agg [.U 1,.J 2,.J 3,.J 4,.J 5,(.s (.x 0))])] (.p (.B 1)) ⟨0,1,0,0,0,0⟩
 (.ite (.or (.or (.not (.x 0)) (.not (.eqI (.x 0) (.c 1)))) (.not (.x 1)))
 (.ret (.p (.one (.b (.c false)))))
 (.loop 0 ⟨[(.c 0)],[(.c false)],[],[],[],[]⟩
 (.ite (.lt (.x 6) (.cnt (.x 0)))
 (.N (.X (.x 6) (.x 0))
 (.O (.el (.x 0) (.x 6) 6 0) 6 [.U 7,.J 8,.J 9,.J 10,.J 11,(.s (.x 1))] ⟨5,0,1,0,0,0⟩
 (.C 50 [.L 0,.J 6] (.p (.L 1)) ⟨0,0,0,0,1,0⟩
 (.loop 1 ⟨[(.c 0),(.x 7),(.x 8),(.x 9),(.x 10),(.x 11)],[],[(.x 1)],[],[.nil],[]⟩
 (.ite (.lt (.x 12) (.cnt (.x 1)))
 (.N (.X (.x 12) (.x 1))
 (.O (.el (.x 1) (.x 12) 1 0) 1 [.J 18] ⟨1,0,0,0,0,0⟩
 (.O (.el (.x 0) (.x 18) 6 0) 6 [.U 19,.J 20,.J 21,.J 22,.J 23,(.s (.x 3))] ⟨5,0,1,0,0,0⟩
 (.N (.X (.x 18) (.x 0))
 (.mk [.U 19,.J 20,.J 21,.J 22,.J 23,(.s (.x 3))] 52 1
 (.app (.x 2) (.x 3) 6 56 52
 (.N (.R (.add (.x 12) (.c 1)))
 (.again 1 ⟨12,3,2,0,2,0⟩ ⟨18,3,3,0,3,0⟩ ⟨[(.add (.x 12) (.c 1)),(.x 13),(.x 14),(.x 15),(.x 16),(.x 17)],[],[(.x 2)],[],[(.x 4)],[]⟩))))))))
 (.ite (.eqI (.x 6) (.c 0))
 (.mk [(.i .u8 (.c 2)),(.i .u8 (.c 4))] 5 2
 (.C 52 [.L 3] (.p (.one (.v 0))) ⟨0,0,0,1,0,0⟩
 (.C 51 [(.agg [.U 13,.J 14,.J 15,.J 16,.J 17,(.s (.x 2)),(.sl (.x 2))]),(.one (.v 0))] (.p (.B 3)) ⟨0,1,0,0,0,0⟩
 (.ite (.not (.x 3))
 (.ret (.p (.one (.b (.c false)))))
 (.need (.lt (.c 0) (.x 6)) (.X (.x 6) (.x 0))
 (.load (.lt (.c 0) (.x 6)) (.el (.x 0) (.x 6) 6 0) 6 [.U 18,.J 19,.J 20,.J 21,.J 22,(.s (.x 3))] ⟨5,0,1,0,0,0⟩
 (.call (.lt (.c 0) (.x 6)) false 49 [(.agg [.U 18,.J 19,.J 20,.J 21,.J 22,(.s (.x 3))])] (.p (.B 4)) ⟨0,1,0,0,0,0⟩
 (.call (.and (.lt (.c 0) (.x 6)) (.x 4)) false 53 [(.agg [.U 13,.J 14,.J 15,.J 16,.J 17,(.s (.x 2)),(.sl (.x 2))])] (.p (.B 5)) ⟨0,1,0,0,0,0⟩
 (.ite (.and (.lt (.c 0) (.x 6)) (.or (.not (.x 4)) (.not (.x 5))))
 (.ret (.p (.one (.b (.c false)))))
 (.N (.R (.add (.x 6) (.c 1)))
 (.again 0 ⟨6,2,1,0,1,0⟩ ⟨7,3,1,0,1,0⟩ ⟨[(.add (.x 6) (.c 1))],[(.x 2)],[],[],[],[]⟩)))))))))))
 (.need (.lt (.c 0) (.x 6)) (.X (.x 6) (.x 0))
 (.load (.lt (.c 0) (.x 6)) (.el (.x 0) (.x 6) 6 0) 6 [.U 18,.J 19,.J 20,.J 21,.J 22,(.s (.x 3))] ⟨5,0,1,0,0,0⟩
 (.call (.lt (.c 0) (.x 6)) false 49 [(.agg [.U 18,.J 19,.J 20,.J 21,.J 22,(.s (.x 3))])] (.p (.B 3)) ⟨0,1,0,0,0,0⟩
 (.call (.and (.lt (.c 0) (.x 6)) (.x 3)) false 53 [(.agg [.U 13,.J 14,.J 15,.J 16,.J 17,(.s (.x 2)),(.sl (.x 2))])] (.p (.B 4)) ⟨0,1,0,0,0,0⟩
 (.ite (.and (.lt (.c 0) (.x 6)) (.or (.not (.x 3)) (.not (.x 4))))
 (.ret (.p (.one (.b (.c false)))))
 (.N (.R (.add (.x 6) (.c 1)))
 (.again 0 ⟨6,2,1,0,1,0⟩ ⟨7,3,1,0,1,0⟩ ⟨[(.add (.x 6) (.c 1))],[(.x 2)],[],[],[],[]⟩)))))))))))))
 (.ret (.p (.one (.b (.c true)))))))))))))))
theorem MN:aZ ⟨true,[]⟩ Tryz.prog (fun l=>([⟨[2,26],[27,28,3,29,30,31,32,33,4,34,35,36,37,38,39,40,41,6,42,43,44,45,46,47,48,49,50,51,53,54,55,56,57,58,59,60,61,52,63,64,65,66,67,68,69,70,71,72,73,74,75,76,77,62,78],[4]⟩,⟨[38],[39,40,41,6,42,43,44,45,46,47,48,49,50,51],[4]⟩]:List bK).getD l ⟨[],[],[]⟩) Tryz.f24=IB:=by kernel_rfl
theorem Us:az Tryz.prog .zero Tryz.f24.params.toList=some ([.L 0],⟨0,0,0,0,1,0⟩):=by kernel_rfl
def Qy (h:Hp) (sl:bM) (t:Tr) (x0:Ng) (o:Nat) (C:Ctx):Prop:=
 match o with
 | 0=>∃ (j:Nat) (k0:Int) (b0 b1 bb:Bool) (k:Hp),C=⟨[k0,x0.k,x0.l,x0.c,x0.z,x0.n,j],[b0,b1,bb],[x0.x],[],[sl],[],k,df⟩/\j<=t.n/\dA h k/\xQ 0 t.subs=xQ j (t.subs.drop j)
 | _=>∃ (j m:Nat) (k0:Int) (b0 b1 bb:Bool) (k:Hp) (x:Ng) (s:Tr) (ksl s':bM),C=⟨[k0,x0.k,x0.l,x0.c,x0.z,x0.n,j,x.k,x.l,x.c,x.z,x.n,m,x.k,x.l,x.c,x.z,x.n],[b0,b1,bb],[x0.x,x.x,x.x],[],[sl,ksl,s'],[],k,df⟩/\
  t.subs[j]? = some s/\x=s.g/\dA h k/\iy k ksl (places ((j:Int)+1) s.kl)/\m<=s.kl.length/\eF k s' (qA ((s.kl.map Tr.g).take m)) 52 6/\s'.n=m/\(∀ y,s'.a=some y->h y.1=none/\∀ z,ksl.a=some z->z.1≠y.1)
def TU (t:Tr) (o:Nat) (C:Ctx):Nat:=match o with
 | 0=>((t.n:Int) - C.i.getD 6 0).toNat
 | _=>(((C.l.getD 1 ⟨none,0,0⟩).n:Int) - C.i.getD 12 0).toNat
theorem acs:∀ t:Tr,∃ k l c n x,t=.nd k l c n x t.kl/\t.g=⟨k,l,c,(Tr.ns t.kl:Nat),n,x⟩
 | .nd k l c n x _=>⟨k,l,c,n,x,rfl,rfl⟩
theorem yY:∀ (ts:List Tr) (p:Nat) {l:List Ng} (_:JM l p ts) (m:Nat) (hm:m<ts.length),∃ q:Nat,(places (p:Nat) ts)[m]? = some (q:Int)/\Ps l q ts[m]
 | [],_,_,_,m,hm=>by simp at hm
 | t::ts,p,l,P,0,_=>⟨p,rfl,P.cons.1⟩
 | t::ts,p,l,P,m+1,hm=>by
   obtain⟨q,h1,h2⟩:=yY ts (p+t.n) P.cons.2 m (by simpa using hm);refine⟨q,?_,by simpa using h2⟩;rw[places,List.getElem?_cons_succ,show ((p:Nat):Int)+(t.n:Nat)=((p+t.n:Nat):Int) by omega];exact h1
set_option maxHeartbeats 16000000 in
def yN:Ct Tryz.prog where
 f:=24
 spec:=fun args h φ=>∃ sl l,args=[bM.val sl]/\NG h sl l/\l.length<=1000000/\((qY l=false/\φ (.bool false) h)\/∃ t:Tr,l=t.gs/\φ (.bool (tC t)) h)
 ok:=by
  rintro args h φ w ⟨sl,l,rfl,R,hl,hφ⟩ hH;have hn:=NG.n R;rcases hφ with ⟨hr,hφ⟩ | ⟨t,rfl,hφ⟩
  ·
   refine dh (bn Tryz.func24 MN Us [pG] (fun v k=>∃ k',dA k' k/\φ v k') (bP) (bu) ⟨[],[],[],[],[sl],[],h,df⟩ ⟨rfl,rfl,rfl,rfl,rfl,rfl⟩ af ?_ w hH rfl);generalize hE:(⟨aG _,_,_,_⟩:Env)=E;have sbm:E.spec 23=(pG).spec:=by rw[<- hE];rfl
   have ep:E.post=(fun v k=>∃ k',dA k' k/\φ v k'):=by rw[<- hE]
   clear hE;unfold IB;rw[au,if_pos (by rfl),sbm];refine⟨sl,l,rfl,R,hl,?_⟩;rw[hr];refine rR ⟨[],[false],[],[],[],[]⟩ rfl af rfl ?_;rw[ae];refine iL (fun g=>by simp[go_sem] at g) ?_;rw[ae];refine iL (fun g=>by simp[go_sem] at g) ?_;rw[bY,if_neg (by simp[go_sem]),ae];refine iL (fun g=>by simp[go_sem] at g) ?_;rw[bY,if_neg (by simp[go_sem]),ae,au,if_neg (by simp[go_sem]),ae,aj,if_pos (by simp[go_sem])];rw[ak,ep];exact⟨h,fun _ _ h=>h,hφ⟩
  have htn:t.gs.length=t.n:=kN t;have htpos:0<t.n:=by rw[mQ];omega
  obtain⟨gr,hgr,_⟩:=qL t;have hg0:t.gs[0]? = some t.g:=by rw[hgr];rfl
  obtain⟨hg1,hg2⟩:=List.getElem?_eq_some_iff.1 hg0;obtain⟨b,o,ha⟩:=Rows.nn R (j:=0) (by omega);have hr0:=NG.node R hg1 ha;rw[hg2] at hr0;have hr1:=Rows.read (off:=0) (m:=1) R (j:=0) (by omega) (by omega) ha;rw[Nat.add_zero,jl hg1,hg2] at hr1;have hR:=zZ t;have P0:Ps t.gs 0 t:=⟨[],[],by simp,rfl⟩;unfold tC at hφ;generalize hx0:t.g=x0 at *;refine dh (bn Tryz.func24 MN Us [pG,E5,X0,zK,yM,J6] (fun v k=>∃ k',dA k' k/\φ v k') (Qy h sl t x0) (fun o C=>TU t o C) ⟨[],[],[],[],[sl],[],h,df⟩ ⟨rfl,rfl,rfl,rfl,rfl,rfl⟩ af ?_ w hH rfl);generalize hE:(⟨aG _,_,_,_⟩:Env)=E;have sbm:E.spec 23=(pG).spec:=by rw[<- hE];rfl
  have sbn:E.spec 49=(E5).spec:=by rw[<- hE];rfl
  have sbo:E.spec 50=(X0).spec:=by rw[<- hE];rfl
  have sbd:E.spec 52=(zK).spec:=by rw[<- hE];rfl
  have sbg:E.spec 51=(yM).spec:=by rw[<- hE];rfl
  have sbp:E.spec 53=(J6).spec:=by rw[<- hE];rfl
  have ep:E.post=(fun v k=>∃ k',dA k' k/\φ v k'):=by rw[<- hE]
  have ei:E.inv=(Qy h sl t x0):=by rw[<- hE]
  have em:E.meas=(fun o C=>TU t o C):=by rw[<- hE]
  clear hE;unfold IB;have fin:∀ (C:Ctx) (b:Bool),dA h C.h->φ (.bool b) h->Then E (.ret (.p (.one (.b (.c b))))) C:=by
   intro C b hC hb;rw[ak,ep];exact⟨h,hC,hb⟩
  rw[au,if_pos (by rfl),sbm];refine⟨sl,t.gs,rfl,R,hl,?_⟩;rw[hR];refine rR ⟨[],[true],[],[],[],[]⟩ rfl af rfl ?_;rw[ae];refine iL (fun g=>by simp[go_sem,ha];omega) ?_;rw[ae];refine iL (fun g=>by simp[go_sem,ha]) ?_;refine rL ⟨[x0.k],[],[],[],[],[]⟩ rfl af (by simpa[go_sem,ha,Ng.cs] using hr1) ?_;by_cases hk1:x0.k=1;rotate_left
  . rw[decide_eq_false hk1] at hφ;rw[ae];refine iL (fun g=>by simp[go_sem,hk1] at g) ?_;rw[bY,if_neg (by simp[go_sem,hk1]),ae,au,if_neg (by simp[go_sem,hk1]),ae,aj,if_pos (by simp[go_sem])];exact fin _ _ (fun _ _ h=>h) hφ
  rw[decide_eq_true hk1,Bool.true_and] at hφ;rw[ae];refine iL (fun g=>by simp[go_sem,ha];omega) ?_;rw[bY,if_pos (by simp[go_sem,hk1])];refine (bQ _ _).2 ⟨⟨[x0.k,x0.l,x0.c,x0.z,x0.n],[],[x0.x],[],[],[]⟩,rfl,af,by simpa[go_sem,ha,Ng.cs] using hr0,?_⟩;rw[dn,if_pos (by simp[go_sem,hk1]),sbn];refine⟨x0,rfl,?_⟩;refine rR ⟨[],[fieldsB x0],[],[],[],[]⟩ rfl af rfl ?_;cases hf0:fieldsB x0 with
  | false=>
    rw[hf0] at hφ;rw[ah,if_pos (by simp[go_sem])];exact fin _ _ (fun _ _ h=>h) hφ
  | true=>
  rw[hf0,Bool.true_and] at hφ;rw[ah,if_neg (by simp[go_sem,hk1]),ae];clear hr0 hr1;refine bI ?_ ?_
  . rw[ei];exact⟨0,x0.k,true,true,false,h,rfl,by omega,fun _ _ h=>h,rfl⟩
  rw[ei,em];rintro i bbs ss v ll pp hh M ⟨j,k0,b0,b1,bb,k,hC,hj,hle,hok⟩ hM;cases hC;have hM':M 0=((t.n:Int) - j).toNat:=hM;clear hM;by_cases hjl:j<t.n;rotate_left
  . have hz2:¬ ((j:Int)<sl.n):=by omega
    rw[aj,if_neg (by simpa[go_sem] using hz2)];rw[List.drop_eq_nil_of_le (by rw[tZ];omega),xQ] at hok;rw[hok] at hφ;exact fin _ _ hle hφ
  have hz2:((j:Int)<sl.n):=by omega
  have hjs:j<t.subs.length:=by rw[tZ];exact hjl
  have hsj:t.subs[j]? = some t.subs[j]:=List.getElem?_eq_getElem hjs;have P:=Jw t P0 j _ hsj;rw[Nat.zero_add] at P;rw[List.drop_eq_getElem_cons hjs,xQ] at hok;generalize t.subs[j]=s at *;obtain⟨hp1,hp2⟩:=P.node;have hplt:=P.lt;have R1:=NG.le R hle;have hnd:=NG.node R1 hp1 ha;rw[hp2] at hnd;rw[aj,if_pos (by simpa[go_sem] using hz2)];rw[ai];refine⟨by simp[go_sem,ha]<;>omega,?_⟩;refine rL ⟨[s.g.k,s.g.l,s.g.c,s.g.z,s.g.n],[],[s.g.x],[],[],[]⟩ rfl af (by simpa[go_sem,ha,Ng.cs] using hnd) ?_;obtain⟨sk,sll,sc,sn,sx,hse,hsg⟩:=acs s;have hns:s.n=Tr.ns s.kl+1:=by rw[hse,mQ,Tr.sz,mr];rfl
  have hkl:=vI s.kl;have PK:JM t.gs (j+1) s.kl:=by rw[hse] at P;exact P.kids
  have hkP:iI t.gs ((j:Nat)+(Tr.ns s.kl:Nat)) s.kl.length ((j:Nat)+1)=some (places ((j:Nat)+1) s.kl):=by
   rw[hse] at P;exact P.iI (Nat.le_refl _)
  rw[ag,sbo];refine⟨sl,t.gs,j,((Tr.ns s.kl:Nat):Int),s.kl.length,_,rfl,R1,hl,by omega,⟨s.g,by rw[List.getElem?_eq_getElem hp1,hp2],by rw[hsg]⟩,by omega,by omega,hkP,fun ksl k2 hle2 hko hkn=>?_⟩;have hle2':dA hh k2:=hle2;refine rR ⟨[],[],[],[],[ksl],[]⟩ rfl af rfl ?_;have KR:=iy.own hko hkn;generalize hxs:s.g=x at *;rw[ae];refine lL ?_ ?_
  . rw[ei];exact⟨j,0,k0,b0,b1,bb,k2,x,s,ksl,⟨none,0,0⟩,rfl,hsj,hxs.symm,dA.trans hle hle2',KR,Nat.zero_le _,.inl ⟨rfl,by simp[qA]⟩,rfl,fun y hy=>(by cases hy)⟩
  rintro⟨xi,xb,xs,xv,xl,xp⟩ h' M' hc hinv hm hM1;rw[ei] at hinv;rw[em] at hm;clear KR hkP R1 hnd hle hle2 hle2' hko hkn;obtain⟨j2,m,k0',b0',b1',bb',k,x',s2,ksl',s',hC,q1,q2,hle,KR,hmk,hown,hsn,hfr⟩:=hinv;simp[Ctx.push,Ctx.heap,Ctx.bare] at hC;obtain⟨⟨rfl,hj2,-,-,-,-,-,rfl⟩,⟨rfl,rfl,rfl,rfl⟩,⟨-,rfl⟩,rfl,⟨rfl,rfl⟩,rfl,rfl⟩:=hC;obtain rfl:j2=j:=by omega
  rw[hsj] at q1;cases q1;rw[hxs] at q2;obtain rfl:x=x':=q2.symm;clear hj2 hc;have hm':M' 1=((ksl.n:Int) - m).toNat:=hm;have hM0:M' 0=((t.n:Int) - j2).toNat:=(hM1 0 (by decide)).trans hM';clear hm hM1 hM';have hkn:ksl.n=s.kl.length:=by rw[KR.n,dK]
  have R1:=NG.le R hle;by_cases hml:m<s.kl.length
  . have hz3:(m:Int)<ksl.n:=by omega
    obtain⟨q,hq1,Pq⟩:=yY s.kl (j2+1) PK m hml;obtain⟨hq2,hq3⟩:=List.getElem?_eq_some_iff.1 hq1;obtain⟨b2,o2,hka,hkr⟩:=KR.read (j:=m) hq2;have hq3':(places ((j2:Int)+1) s.kl)[m]'hq2=(q:Int):=hq3;rw[hq3'] at hkr;obtain⟨hpq,hpq2⟩:=Pq.node;have hndq:=NG.node R1 hpq ha;rw[hpq2] at hndq;have htake:(s.kl.map Tr.g).take (m+1)=(s.kl.map Tr.g).take m++[(s.kl[m]).g]:=by rw[List.take_succ_eq_append_getElem (by simpa using hml)];simp
    generalize (s.kl[m]).g=y at *;rw[aj,if_pos (by simpa[go_sem] using hz3)];rw[ai];refine⟨by simp[go_sem,hka]<;>omega,?_⟩;refine rL ⟨[(q:Int)],[],[],[],[],[]⟩ rfl af (by simpa[go_sem,hka] using hkr) ?_;refine rL ⟨[y.k,y.l,y.c,y.z,y.n],[],[y.x],[],[],[]⟩ rfl af (by simpa[go_sem,ha,Ng.cs] using hndq) ?_;rw[ai];refine⟨by simp[go_sem,ha]<;>omega,?_⟩;rw[ae,aK];intro b3 hb3;have hb3':h' b3=none:=hb3;rw[ae,cu];have hle3:=fE hb3' ⟨y.cs,52⟩;refine⟨qA ((s.kl.map Tr.g).take m),y.cs,yV hown hle3,.inr ⟨by simp[go_sem],?_⟩,?_,?_,?_,?_⟩
    . simp[go_sem,Ng.cs]
    . intro u hu;simp[Ng.cs] at hu;rcases hu with rfl | rfl | rfl | rfl | rfl | rfl<;>rfl
    . show s'.n+1<=maxLen;unfold maxLen;omega
    . show (s'.n+1)*56<=_;omega
    intro s3 k3 g1 g2 g3 g4;have g2':s3.n=s'.n+1:=g2;have hle4:dA h k3:=fun c oo hc=>g4 c oo (fun y hy e=>by
     have:=(hfr y hy).1;rw[e,hc] at this;cases this) (hle3 _ _ (hle _ _ hc))
    have hnone:∀ c,(h'.set b3 ⟨y.cs,52⟩) c=none->h' c=none:=fun c hc=>yS hb3' hc
    rw[aC];refine⟨by simp[go_sem];omega,?_⟩;rw[ae,says_again,ei,em];refine⟨⟨j2,m+1,k0,b0,b1,bb,k3,x,s,ksl,s3,rfl,hsj,hxs.symm,hle4,?_,by omega,by rw[htake,IG];simpa[qA] using g1,by rw[g2',hsn],fun q4 hq4=>?_⟩,?_⟩
    . refine⟨KR.n,KR.c,KR.at_.imp id fun ⟨c,o4,ob,h1,h2,h3⟩=>⟨c,o4,ob,h1,g4 c ob (fun y hy e=>(hfr y hy).2 _ h1 e.symm) (hle3 _ _ h2),h3⟩⟩
    . rcases g3 q4 hq4 with ⟨q5,hq5,e⟩ | hn5
      . rw[<- e];exact hfr q5 hq5
      . have hn6:=hnone _ hn5;refine⟨?_,fun z hz e=>?_⟩
        . cases hh2:h q4.1 with
          | none=>rfl
          | some oo=>rw[hle _ _ hh2] at hn6;cases hn6
        . rcases KR.at_ with h0 | ⟨c,o4,ob,h1,h2,_⟩
          . have:(places ((j2:Int)+1) s.kl).length=0:=by rw[h0];rfl
            rw[dK] at this;omega
          . rw[h1] at hz;cases hz;simp only at e;rw[<- e,h2] at hn6;cases hn6
    . show (((ksl.n:Int) - ((m:Int)+1)).toNat)<M' 1;omega
  have hz3:¬ ((m:Int)<ksl.n):=by omega
  rw[aj,if_neg (by simpa[go_sem] using hz3)];obtain rfl:m=s.kl.length:=by omega
  rw[List.take_of_length_le (by simp)] at hown;have NR:NG h' s' (s.kl.map Tr.g):=Rows.Jb hown;have hsc:s'.n<=s'.c:=by
   rcases hown with ⟨h1,_⟩ | ⟨_,_,_,_,_,_,h5,_⟩
   . rw[h1];exact Nat.le_refl _
   . exact h5
  have hgo:xQ 0 t.subs=xQ (j2+1) (t.subs.drop (j2+1))->∀ (k5:Hp) (bb2:Bool),dA h k5->Qy h sl t x0 0 ⟨[k0,x0.k,x0.l,x0.c,x0.z,x0.n,(j2:Int)+1],[b0,b1,bb2],[x0.x],[],[sl],[],k5,df⟩:=fun h1 k5 bb2 h2=>
   ⟨j2+1,k0,b0,b1,bb2,k5,rfl,by omega,h2,h1⟩
  have hms:((t.n:Int) - ((j2:Int)+1)).toNat<M' 0:=by omega
  by_cases hj0:j2=0
  . have hjz:(j2:Int)=0:=by omega
    have hok0:okI j2 s=(s.kl.map Tr.g).all (wO [2,4]):=by unfold okI;rw[if_pos hj0]
    rw[hok0] at hok;rw[ah,if_pos (by simpa[go_sem] using hjz)];rw[ae,aK];intro b3 hb3;have hb3':h' b3=none:=hb3;have hle3:=fun o=>fE hb3' o
    rw[ag,sbd];refine⟨_,rfl,fun pb kb Tb hkb hpb=>?_⟩;refine⟨fun h=>(by cases h),(bQ _ _).2 ⟨⟨[],[],[],[_],[],[]⟩,rfl,by intro u hu;simp at hu;subst hu;rfl,rfl,?_⟩⟩;have hlekb:dA h' kb:=dA.trans (hle3 _) hkb;have hro:Rows kb ⟨some (b3,0),2,2⟩ (Qq [2,4]) 1:=nD (hkb _ _ (aA _ _ _)) rfl;have hw:=rD hpb hro (by decide);rw[ag,sbg];refine⟨x,s',s.kl.map Tr.g,_,_,rfl,NR.le hlekb,by rw[List.length_map];omega,hw,?_⟩;refine rR ⟨[],[(s.kl.map Tr.g).all (wO [2,4])],[],[],[],[]⟩ rfl af rfl ?_;have hlef:dA h kb:=dA.trans hle hlekb;cases hall:(s.kl.map Tr.g).all (wO [2,4]) with
    | false=>
      rw[hall,Bool.false_and] at hok;rw[hok] at hφ;rw[ah,if_pos (by simp[go_sem])];exact fin _ _ hlef hφ
    | true=>
      rw[hall,Bool.true_and] at hok;rw[ah,if_neg (by simp[go_sem]),ae];refine iL (fun g=>by simp[go_sem,hjz] at g) ?_;rw[bY,if_neg (by simp[go_sem,hjz]),ae,au,if_neg (by simp[go_sem,hjz]),ae,au,if_neg (by simp[go_sem,hjz]),ae,aj,if_neg (by simp[go_sem,hjz])];rw[ai];refine⟨by simp[go_sem]<;>omega,?_⟩;rw[ae,says_again,ei,em];exact⟨hgo hok kb _ hlef,hms⟩
  . have hjz:¬ (j2:Int)=0:=by omega
    have hjp:(0:Int)<(j2:Int):=by omega
    have hjp':0<j2:=by omega
    have hok0:okI j2 s=(fieldsB x&&fG x.k x.n (s.kl.map Tr.g)):=by unfold okI;rw[if_neg hj0,hxs]
    rw[hok0] at hok;have hnd:=NG.node R1 hp1 ha;rw[hp2] at hnd;rw[ah,if_neg (by simpa[go_sem] using hjz),ae];refine iL (fun g=>by simp[go_sem,ha];omega) ?_;rw[bY,if_pos (by simpa[go_sem] using hjp)];refine (bQ _ _).2 ⟨⟨[x.k,x.l,x.c,x.z,x.n],[],[x.x],[],[],[]⟩,rfl,af,by simpa[go_sem,ha,Ng.cs] using hnd,?_⟩;rw[dn,if_pos (by simpa[go_sem] using hjp),sbn];refine⟨x,rfl,?_⟩;refine rR ⟨[],[fieldsB x],[],[],[],[]⟩ rfl af rfl ?_;cases hf:fieldsB x with
    | false=>
      rw[hf,Bool.false_and,Bool.false_and] at hok;rw[hok] at hφ;rw[dn,if_neg (by simp[go_sem]),ae,aj,if_pos (by simp[go_sem,hjp'])];exact fin _ _ hle hφ
    | true=>
      rw[hf,Bool.true_and] at hok;rw[dn,if_pos (by simp[go_sem,hjp']),sbp];refine⟨x,s',s.kl.map Tr.g,rfl,NR,by rw[List.length_map];omega,hsc,?_⟩;refine rR ⟨[],[fG x.k x.n (s.kl.map Tr.g)],[],[],[],[]⟩ rfl af rfl ?_;cases hrb:fG x.k x.n (s.kl.map Tr.g) with
      | false=>
        rw[hrb,Bool.false_and] at hok;rw[hok] at hφ;rw[ah,if_pos (by simp[go_sem,hjp'])];exact fin _ _ hle hφ
      | true=>
        rw[hrb,Bool.true_and] at hok;rw[ah,if_neg (by simp[go_sem])];rw[ai];refine⟨by simp[go_sem]<;>omega,?_⟩;rw[ae,says_again,ei,em];exact⟨hgo hok h' _ hle,hms⟩
def Me:Fm:=(.N (.R (.add (.cnt (.x 0)) (.cnt (.x 1))))
 (.N (.R (.add (.add (.cnt (.x 0)) (.cnt (.x 1))) (.c 4)))
 (.N (.R (.add (.add (.cnt (.x 0)) (.cnt (.x 1))) (.c 3)))
 (.N (.R (.add (.add (.cnt (.x 0)) (.cnt (.x 1))) (.c 1)))
 (.mk [(.i .u8 (.c 1)),(.i .i64 (.c 0)),(.i .i64 (.c 0)),(.i .i64 (.add (.add (.cnt (.x 0)) (.cnt (.x 1))) (.c 4))),(.i .i64 (.c 0)),(.s (.c [])),(.i .u8 (.c 4)),(.i .i64 (.c 0)),(.i .i64 (.c 0)),(.i .i64 (.add (.add (.cnt (.x 0)) (.cnt (.x 1))) (.c 3))),(.i .i64 (.c 0)),(.s (.c [102])),(.i .u8 (.c 14)),(.i .i64 (.c 0)),(.i .i64 (.c 0)),(.i .i64 (.c 0)),(.i .i64 (.c 0)),(.s (.c [])),(.i .u8 (.c 6)),(.i .i64 (.c 0)),(.i .i64 (.c 0)),(.i .i64 (.add (.add (.cnt (.x 0)) (.cnt (.x 1))) (.c 1))),(.i .i64 (.c 0)),(.s (.c [])),.U 0,(.i .i64 (.c 0)),(.i .i64 (.c 0)),(.i .i64 (.add (.cnt (.x 0)) (.cnt (.x 1)))),(.i .i64 (.c 0)),(.s (.c []))] 52 5
 (.app (.x 2) (.x 1) 6 56 52
 (.app (.x 3) (.x 0) 6 56 52
 (.ret (.p (.L 4))))))))))
theorem Wj:aZ ⟨true,[]⟩ Tryz.prog (fun l=>([]:List bK).getD l ⟨[],[],[]⟩) Tryz.f25=Me:=by kernel_rfl
theorem aaC:az Tryz.prog .zero Tryz.f25.params.toList=some ([.L 0,(.one (.U 0)),.L 1],⟨1,0,0,0,2,0⟩):=by kernel_rfl
def FZ:Fm:=(.C 23 [.L 0] (.p (.B 0)) ⟨0,1,0,0,0,0⟩
 (.call (.x 0) false 25 [.L 0,(.one (.i .u8 (.c 12))),(.one (.sl .nil))] (.p (.L 1)) ⟨0,0,0,0,1,0⟩
 (.call (.x 0) false 24 [.L 1] (.p (.B 1)) ⟨0,1,0,0,0,0⟩
 (.ite (.or (.not (.x 0)) (.not (.x 1)))
 (.ret (.tup [.W [],(.I (.c 1))]))
 (.new [(.sl (.x 0)),(.c .nilp),(.sl .nil),(.i .i64 (.c 0))] 48
 (.V 26 [.P 0,(.I (.c 0))]
 (.Z 0
 (.Z 0
 (.C 27 [(.one (.adr (.pt 0 1)))] (.p (.S 0)) ⟨0,0,1,0,0,0⟩
 (.ret (.tup [.S 0,(.I (.c 0))])))))))))))
theorem Qd:aZ ⟨true,[16]⟩ Tryz.prog (fun l=>([]:List bK).getD l ⟨[],[],[]⟩) Tryz.f9=FZ:=by kernel_rfl
theorem WU:az Tryz.prog .zero Tryz.f9.params.toList=some ([.L 0],⟨0,0,0,0,1,0⟩):=by kernel_rfl
def hd5 (kind n:Int):List Ng:=[⟨1,0,0,n+4,0,[]⟩,⟨4,0,0,n+3,0,[102]⟩,⟨14,0,0,0,0,[]⟩,⟨6,0,0,n+1,0,[]⟩,⟨kind,0,0,n,0,[]⟩]
def yG (kind:Int) (t:Tr):Tr:=.nd 1 0 0 0 [] [.nd 4 0 0 0 [102] [.nd 14 0 0 0 [] [],.nd 6 0 0 0 [] [.nd kind 0 0 0 [] [t]]]]
theorem Ox (kind:Int) (t:Tr):(yG kind t).gs=hd5 kind t.n++t.gs:=by
 unfold yG hd5;simp only[nC,eG,ay,aQ,iC,show Tr.rP []=[] from rfl,List.append_nil,List.nil_append,List.cons_append];simp only[List.cons.injEq,Ng.mk.injEq,and_true,true_and];omega
theorem ZG (l:List Ng):gQ (qA l):=by
 intro u hu;unfold qA at hu;obtain⟨x,_,hx⟩:=List.mem_flatMap.1 hu;simp only[Ng.cs,List.mem_cons,List.not_mem_nil,or_false] at hx;rcases hx with rfl | rfl | rfl | rfl | rfl | rfl<;>rfl
theorem NG.rd {h:Hp} {sl:bM} {l:List Ng} (R:NG h sl l):RdS h sl (qA l) 6:=by
 have hn:=NG.n R;rcases R.2 with h0 | hr
 . refine .inl ⟨h0,?_⟩;have:l=[]:=List.eq_nil_of_length_eq_zero (by omega);rw[this];rfl
 . refine .inr ⟨?_,hr⟩;intro e;rw[e] at hr;cases hr
set_option maxHeartbeats 4000000 in
def SA:Ct Tryz.prog where
 f:=25
 spec:=fun args h φ=>∃ sl l kind,args=[bM.val sl,.int .u8 kind,(bM.mk none 0 0).val]/\NG h sl l/\l.length<=1000000/\∀ s' k,dA h k->eF k s' (qA (hd5 kind l.length++l)) 52 6->s'.n=l.length+5->φ s'.val k
 ok:=by
  rintro args h φ w ⟨sl,l,kind,rfl,R,hl,hφ⟩ hH;have hn:=NG.n R;refine bn Tryz.func25 Wj aaC [] φ (bP) (bu) ⟨[kind],[],[],[],[sl,⟨none,0,0⟩],[],h,df⟩ ⟨rfl,rfl,rfl,rfl,rfl,rfl⟩ af ?_ w hH rfl;generalize hE:(⟨aG _,_,_,_⟩:Env)=E;have ep:E.post=φ:=by rw[<- hE]
  clear hE;unfold Me;rw[<- ae];rw[ai];refine⟨by simp[go_sem]<;>omega,?_⟩;rw[ai];refine⟨by simp[go_sem]<;>omega,?_⟩;rw[ai];refine⟨by simp[go_sem]<;>omega,?_⟩;rw[ai];refine⟨by simp[go_sem]<;>omega,?_⟩;rw[ae,aK];intro b hb;have hb':h b=none:=hb;have hcs:∀ m:Int,m=l.length->[Value.int .u8 1,.int .i64 0,.int .i64 0,.int .i64 (m+0+4),.int .i64 0,.string (B []),.int .u8 4,.int .i64 0,.int .i64 0,.int .i64 (m+0+3),.int .i64 0,.string (B [102]),.int .u8 14,.int .i64 0,.int .i64 0,.int .i64 0,.int .i64 0,.string (B []),.int .u8 6,.int .i64 0,.int .i64 0,.int .i64 (m+0+1),.int .i64 0,.string (B []),.int .u8 kind,.int .i64 0,.int .i64 0,.int .i64 (m+0),.int .i64 0,.string (B [])]=qA (hd5 kind l.length):=by
   rintro m rfl;simp[qA,hd5,Ng.cs]
  have hle1:=fE hb' ⟨qA (hd5 kind l.length),52⟩;have hm:(sl.n:Int)=l.length:=by omega
  have heq:(⟨[Value.int .u8 1,.int .i64 0,.int .i64 0,.int .i64 ((sl.n:Int)+0+4),.int .i64 0,.string (B []),.int .u8 4,.int .i64 0,.int .i64 0,.int .i64 ((sl.n:Int)+0+3),.int .i64 0,.string (B [102]),.int .u8 14,.int .i64 0,.int .i64 0,.int .i64 0,.int .i64 0,.string (B []),.int .u8 6,.int .i64 0,.int .i64 0,.int .i64 ((sl.n:Int)+0+1),.int .i64 0,.string (B []),.int .u8 kind,.int .i64 0,.int .i64 0,.int .i64 ((sl.n:Int)+0),.int .i64 0,.string (B [])],52⟩:HO)=⟨qA (hd5 kind l.length),52⟩:=by rw[hcs _ hm]
  have hl5:(qA (hd5 kind l.length)).length=30:=by rw[qK];rfl
  rw[ae,cu];refine⟨qA (hd5 kind l.length),[],.inr ⟨b,⟨qA (hd5 kind l.length),52⟩,rfl,(aA _ _ _).trans (congrArg some heq),rfl,hl5,Nat.le_refl _,?_,?_⟩,.inl ⟨rfl,rfl⟩,fun u hu=>(by cases hu),?_,?_,?_⟩
  . show 5<=maxLen;unfold maxLen;omega
  . exact (List.take_of_length_le (by rw[hl5];show 30<=5*6;omega)).symm
  . show 5+0<=maxLen;unfold maxLen;omega
  . show (5+0)*56<=_;omega
  intro s1 k1 g1 g2 g3 g4;have g2':s1.n=5:=g2;rw[List.append_nil] at g1;have keep1:dA h k1:=fun c o hc=>g4 c o (fun x hx e=>by
   have hx':some (b,0)=some x:=hx;cases hx';simp only at e;rw[<- e,hb'] at hc;cases hc) (by
    show (h.set b _) c=_;rw[aO _ (fun e=>by rw[e,hb'] at hc;cases hc)];exact hc)
  have fr1:∀ y,s1.a=some y->h y.1=none:=fun y hy=>by
   rcases g3 y hy with ⟨z,hz,e⟩ | hn1
   . have hz':some (b,0)=some z:=hz;cases hz';rw[<- e];exact hb'
   . exact yS hb' hn1
  have R1:=NG.le R keep1;rw[cu];refine⟨qA (hd5 kind l.length),qA l,g1,R1.rd,ZG l,?_,?_,?_⟩
  . show s1.n+sl.n<=maxLen;unfold maxLen;omega
  . show (s1.n+sl.n)*56<=_;omega
  intro s2 k2 q1 q2 q3 q4;have q2':s2.n=s1.n+sl.n:=q2;rw[ax,ep];refine hφ s2 k2 (fun c o hc=>q4 c o (fun x hx e=>?_) (keep1 c o hc)) ?_ (by omega)
  . have:=fr1 x hx;rw[e,hc] at this;cases this
  . rw[IG];exact q1
theorem Uu {h:Hp} {b:Nat} {lsl:bM} {l:List Ng} (R:NG h lsl l) (hl:l≠[]) (hb:h b=none):mF (h.set b ⟨prn b lsl false ⟨none,0,0⟩ 0,rU⟩) b lsl l false ⟨none,0,0⟩ 0 []:=by
 have hn:=NG.n R;have hp:0<l.length:=List.length_pos_iff.2 hl;obtain⟨c,o,ha⟩:=Rows.nn R (j:=0) (by omega);have hr:=NG.node R hp ha;refine⟨⟨aA _ _ _,.inl ⟨rfl,rfl⟩,rfl,fun z hz=>(by cases hz),fun _=>rfl,fun hz=>absurd rfl hz⟩,R.le (fE hb _),hl,fun z hz e=>?_,fun z y _ hy=>(by cases hy)⟩;rw[ha] at hz;cases hz;simp only at e;unfold hread at hr;simp only at hr;rw[e,hb] at hr;cases hr
theorem QM {h k k':Hp} {b:Nat} {sl':bM} {o:HO} (hle:dA h k) (hb:k b=none) (G:qB (k.set b o) k' b ⟨none,0,0⟩ sl'):dA h (k'.drop sl'):=fun c oo hc=>by
 have hk:=hle c oo hc;have hcb:c≠b:=fun e=>by rw[e,hb] at hk;cases hk
 have hk':(k.set b o) c=some oo:=by rw[aO _ hcb];exact hk
 have h3:=G.keep c oo hcb (fun z hz=>by cases hz) hk';unfold Hp.drop;cases hs:sl'.a with
 | none=>exact h3
 | some z=>
   have hzc:c≠z.1:=fun e=>by
    rcases G.new z hs with ⟨y,hy,_⟩ | hn
    . cases hy
    . rw[<- e,hk'] at hn;cases hn
   show (k'.del z.1) c=some oo;unfold Hp.del;rw[if_neg hzc];exact h3
def XA:Value:=.tuple #[.string (B []),.int .i64 1]
def yOk (s:List UInt8):Value:=.tuple #[.string (B s),.int .i64 0]
set_option maxHeartbeats 4000000 in
def Ky:Ct Tryz.prog where
 f:=9
 spec:=fun args h φ=>∃ sl l,args=[bM.val sl]/\NG h sl l/\l.length<=900000/\((qY l=false/\φ XA h)\/∃ t:Tr,l=t.gs/\((tC (yG 12 t)=false/\φ XA h)\/(tC (yG 12 t)=true/\jC t/\(tx t).length<=200000/\φ (yOk (tx t)) h)))
 ok:=by
  rintro args h φ w ⟨sl,l,rfl,R,hl,hφ⟩ hH;refine dh (bn Tryz.func9 Qd WU [pG,SA,yN,lI (uj 1000000),uw] (fun v k=>∃ k',dA k' k/\φ v k') (bP) (bu) ⟨[],[],[],[],[sl],[],h,df⟩ ⟨rfl,rfl,rfl,rfl,rfl,rfl⟩ af ?_ w hH rfl);generalize hE:(⟨aG _,_,_,_⟩:Env)=E;have sbm:E.spec 23=(pG).spec:=by rw[<- hE];rfl
  have sbq:E.spec 25=(SA).spec:=by rw[<- hE];rfl
  have sbr:E.spec 24=(yN).spec:=by rw[<- hE];rfl
  have san:E.spec 26=(lI (uj 1000000)).spec:=by rw[<- hE];rfl
  have sbs:E.spec 27=(uw).spec:=by rw[<- hE];rfl
  have ep:E.post=(fun v k=>∃ k',dA k' k/\φ v k'):=by rw[<- hE]
  clear hE;unfold FZ;rw[au,if_pos (by rfl),sbm];refine⟨sl,l,rfl,R,by omega,?_⟩;refine rR ⟨[],[qY l],[],[],[],[]⟩ rfl af rfl ?_;rcases hφ with ⟨hr,hφ⟩ | ⟨t,rfl,hφ⟩
  . rw[hr];rw[dn,if_neg (by simp[go_sem]),ae,au,if_neg (by simp[go_sem]),ae,aj,if_pos (by simp[go_sem])];rw[ak,ep];exact⟨h,fun _ _ h=>h,hφ⟩
  rw[zZ];have htn:=kN t;rw[dn,if_pos (by rfl),sbq];refine⟨sl,t.gs,12,rfl,R,by omega,fun s' k hle ho hsn=>?_⟩;have hle':dA h k:=hle;refine rR ⟨[],[],[],[],[s'],[]⟩ rfl af rfl ?_;have NR:NG k s' (yG 12 t).gs:=by
   rw[Ox,<- htn];exact Rows.Jb ho
  have hwl:(yG 12 t).gs.length<=1000000:=by
   rw[Ox,List.length_append];show 5+_<=_;omega
  rw[dn,if_pos (by rfl),sbr];refine⟨s',_,rfl,NR,hwl,.inr ⟨_,rfl,?_⟩⟩;refine rR ⟨[],[tC (yG 12 t)],[],[],[],[]⟩ rfl af rfl ?_;rcases hφ with ⟨hm,hφ⟩ | ⟨hm,W,hlen,hφ⟩
  . rw[hm];rw[ah,if_pos (by simp[go_sem])];rw[ak,ep];exact⟨h,hle',hφ⟩
  . rw[hm];rw[ah,if_neg (by simp[go_sem]),ae,eu];intro b hb;have hb':k b=none:=hb;have hne:t.gs≠[]:=by
     obtain⟨r,hr,_⟩:=qL t;rw[hr];simp
    have X:=Uu (NG.le R hle') hne hb';rw[dn,if_pos (by rfl),san];refine⟨b,sl,t.gs,false,⟨none,0,0⟩,0,[],0,t,rfl,X,⟨[],[],by simp,rfl⟩,W,by omega,by omega,⟨by omega,by simp;omega⟩,fun u1 s1 k1 X1 G1=>?_⟩;refine rR ⟨[],[],[],[],[],[]⟩ rfl af rfl ?_;rw[ai];refine⟨by simp[go_sem]<;>omega,?_⟩;rw[ai];refine⟨by simp[go_sem]<;>omega,?_⟩;rw[dn,if_pos (by rfl),sbs];refine⟨b,sl,u1,s1,0,_,rfl,X1.prn,?_⟩;refine rR ⟨[],[],[tx t],[],[],[]⟩ rfl af rfl ?_;rw[ak,ep];exact⟨h,QM hle' hb' G1,hφ⟩
def CQ:Fm:=(.C 24 [.L 0] (.p (.B 0)) ⟨0,1,0,0,0,0⟩
 (.ite (.not (.x 0))
 (.ret (.tup [.W [],(.I (.c 1))]))
 (.new [(.sl (.x 0)),(.c .nilp),(.sl .nil),(.i .i64 (.c 0))] 48
 (.C 38 [.P 0,(.I (.c 0))] (.p (.L 1)) ⟨0,0,0,0,1,0⟩
 (.loop 0 ⟨[(.c 0)],[],[],[],[],[]⟩
 (.ite (.lt (.x 0) (.cnt (.x 1)))
 (.N (.X (.x 0) (.x 1))
 (.O (.el (.x 1) (.x 0) 1 0) 1 [.J 1] ⟨1,0,0,0,0,0⟩
 (.N (.X (.x 1) (.x 0))
 (.N (.nns (.x 0))
 (.O (.el (.x 0) (.x 1) 6 0) 1 [.U 2] ⟨1,0,0,0,0,0⟩
 (.ite (.eqI (.x 2) (.c 2))
 (.V 39 [.P 0,.J 1]
 (.mk [(.s (.c [10]))] 9 1
 (.V 41 [.P 0,.L 2]
 (.N (.R (.add (.x 0) (.c 1)))
 (.again 0 ⟨0,1,0,0,2,1⟩ ⟨1,1,0,0,2,1⟩ ⟨[(.add (.x 0) (.c 1))],[],[],[],[],[]⟩)))))
 (.V 40 [.P 0,.J 1]
 (.mk [(.s (.c [10]))] 9 1
 (.V 41 [.P 0,.L 2]
 (.N (.R (.add (.x 0) (.c 1)))
 (.again 0 ⟨0,1,0,0,2,1⟩ ⟨1,1,0,0,2,1⟩ ⟨[(.add (.x 0) (.c 1))],[],[],[],[],[]⟩)))))))))))
 (.Z 0
 (.Z 0
 (.C 27 [(.one (.adr (.pt 0 1)))] (.p (.S 0)) ⟨0,0,1,0,0,0⟩
 (.ret (.tup [.S 0,(.I (.c 0))])))))))))))
theorem F9:aZ ⟨true,[12]⟩ Tryz.prog (fun l=>([⟨[16],[17,18,19,6,20,21,22,23,24,25,26,27,28,29,30,31,32,33,34,35],[]⟩]:List bK).getD l ⟨[],[],[]⟩) Tryz.f18=CQ:=by kernel_rfl
theorem NI:az Tryz.prog .zero Tryz.f18.params.toList=some ([.L 0],⟨0,0,0,0,1,0⟩):=by kernel_rfl
inductive OO:Tr->Prop
 | rc (l c n:Int) (x:List UInt8) (fs:List Tr) (h:∀ t∈fs,zB 3 t):OO (.nd 2 l c n x fs)
 | fn (l c:Int) (x:List UInt8) (ps:List Tr) (r d:Tr) (h:∀ t∈ps,zB 5 t) (hr:r.k=14\/yK r) (hd:JQ d):OO (.nd 4 l c ps.length x (ps++[r,d]))
theorem U5 (l c n:Int) (x:List UInt8) (fs:List Tr):kZ (.nd 2 l c n x fs)=zX x fs:=by simp[kZ]
theorem U4 (l c:Int) (x:List UInt8) (ps:List Tr) (r d:Tr):kZ (.nd 4 l c ps.length x (ps++[r,d]))=EL x ps r d:=by simp[kZ]
def EF (k0:Hp) (b:Nat) (lsl:bM) (l:List Ng) (ks:List Tr) (_:Nat) (C:Ctx):Prop:=
 ∃ (j:Nat) (u:Bool) (s s':bM) (k:Hp) (pre rest:List Tr) (a:List UInt8),C=⟨[(j:Int)],[true],[],[],[lsl,s],[some (b,0)],k,df⟩/\ks=pre++rest/\pre.length=j/\mF k b lsl l u s' ((0:Nat):Int) a/\qB k0 k b ⟨none,0,0⟩ s'/\iy k s (places ((1:Nat):Int) ks)/\a++fA rest=fA ks
set_option maxHeartbeats 8000000 in
def Sv:Ct Tryz.prog where
 f:=18
 spec:=fun args h φ=>∃ sl l,args=[bM.val sl]/\NG h sl l/\l.length<=1000000/\((qY l=false/\φ XA h)\/∃ t:Tr,l=t.gs/\((tC t=false/\φ XA h)\/(tC t=true/\∃ ln c n x ks,t=.nd 1 ln c n x ks/\(∀ k∈ks,OO k)/\(fA ks).length<=1000000000000/\φ (yOk (fA ks)) h)))
 ok:=by
  rintro args h φ w ⟨sl,l,rfl,R,hl,hφ⟩ hH;by_cases hbad:(qY l=false/\φ XA h)\/∃ t:Tr,l=t.gs/\tC t=false/\φ XA h
  ·
   refine dh (bn Tryz.func18 F9 NI [yN] (fun v k=>∃ k',dA k' k/\φ v k') (bP) (bu) ⟨[],[],[],[],[sl],[],h,df⟩ ⟨rfl,rfl,rfl,rfl,rfl,rfl⟩ af ?_ w hH rfl);generalize hE:(⟨aG _,_,_,_⟩:Env)=E;have sbr:E.spec 24=(yN).spec:=by rw[<- hE];rfl
   have ep:E.post=(fun v k=>∃ k',dA k' k/\φ v k'):=by rw[<- hE]
   clear hE;unfold CQ;rw[au,if_pos (by rfl),sbr];refine⟨sl,l,rfl,R,hl,?_⟩;rcases hbad with ⟨hr,hφ2⟩ | ⟨t,ht,hm,hφ2⟩
   . refine .inl ⟨hr,?_⟩;refine rR ⟨[],[false],[],[],[],[]⟩ rfl af rfl ?_;rw[ah,if_pos (by simp[go_sem])];rw[ak,ep];exact⟨h,fun _ _ h=>h,hφ2⟩
   . refine .inr ⟨t,ht,?_⟩;rw[hm];refine rR ⟨[],[false],[],[],[],[]⟩ rfl af rfl ?_;rw[ah,if_pos (by simp[go_sem])];rw[ak,ep];exact⟨h,fun _ _ h=>h,hφ2⟩
  rcases hφ with h0 | ⟨t,rfl,h0 | ⟨hm,ln,c,n,x,ks,rfl,W,hlen,hφ⟩⟩
  . exact absurd (.inl h0) hbad
  . exact absurd (.inr ⟨t,rfl,h0.1,h0.2⟩) hbad
  clear hbad;have hgl:=kN (Tr.nd 1 ln c n x ks);have hnn:(Tr.nd 1 ln c n x ks).n=Tr.ns ks+1:=by rw[mQ,Tr.sz,mr]
  have P:Ps (Tr.nd 1 ln c n x ks).gs 0 (.nd 1 ln c n x ks):=⟨[],[],by simp,rfl⟩;have hne:(Tr.nd 1 ln c n x ks).gs≠[]:=by
   obtain⟨r,hr,_⟩:=qL (Tr.nd 1 ln c n x ks);rw[hr];simp
  obtain⟨hpl,hpt⟩:=P.node;have PK:=P.kids;generalize hlg:(Tr.nd 1 ln c n x ks).gs=l at *;have hks:=vI ks;refine dh (bn Tryz.func18 F9 NI [yN,jR,Yl,adW,ig,uw] (fun v k=>∃ k',dA k' k/\φ v k') (fun o C=>∃ (k0:Hp) (b:Nat),dA h k0/\k0 b≠none/\EF k0 b sl l ks o C/\h b=none/\(∀ c o,h c=some o->c≠b)) (fun _ C=>((ks.length:Int) - C.i.getD 0 0).toNat) ⟨[],[],[],[],[sl],[],h,df⟩ ⟨rfl,rfl,rfl,rfl,rfl,rfl⟩ af ?_ w hH rfl);generalize hE:(⟨aG _,_,_,_⟩:Env)=E;have sbr:E.spec 24=(yN).spec:=by rw[<- hE];rfl
  have sb5:E.spec 38=(jR).spec:=by rw[<- hE];rfl
  have sbt:E.spec 39=(Yl).spec:=by rw[<- hE];rfl
  have sbu:E.spec 40=(adW).spec:=by rw[<- hE];rfl
  have sb3:E.spec 41=(ig).spec:=by rw[<- hE];rfl
  have sbs:E.spec 27=(uw).spec:=by rw[<- hE];rfl
  have ep:E.post=(fun v k=>∃ k',dA k' k/\φ v k'):=by rw[<- hE]
  have ei:E.inv=(fun o C=>∃ (k0:Hp) (b:Nat),dA h k0/\k0 b≠none/\EF k0 b sl l ks o C/\h b=none/\(∀ c o,h c=some o->c≠b)):=by rw[<- hE]
  have em:E.meas=(fun _ C=>((ks.length:Int) - C.i.getD 0 0).toNat):=by rw[<- hE]
  clear hE;unfold CQ;rw[au,if_pos (by rfl),sbr];refine⟨sl,l,rfl,R,hl,.inr ⟨_,hlg.symm,?_⟩⟩;rw[hm];refine rR ⟨[],[true],[],[],[],[]⟩ rfl af rfl ?_;rw[ah,if_neg (by simp[go_sem]),ae,eu];intro b hb;have hb':h b=none:=hb;have X:=Uu R hne hb';have hle0:dA h (h.set b ⟨prn b sl false ⟨none,0,0⟩ 0,rU⟩):=fE hb' _;rw[ag,sb5];refine⟨b,sl,l,0,((Tr.ns ks:Nat):Int),ks.length,places (((0:Nat):Int)+1) ks,_,_,rfl,X.prn.at_,X.row,hl,by omega,⟨l[0],List.getElem?_eq_getElem hpl,by rw[hpt];rfl⟩,by omega,by omega,P.iI (Nat.le_refl _),fun s k_3 hle ho hsn=>?_⟩;refine rR ⟨[],[],[],[],[s],[]⟩ rfl af rfl ?_;have R0:=iy.own ho hsn;have X_1:=X.le hle;have hle1:dA (h.set b ⟨prn b sl false ⟨none,0,0⟩ 0,rU⟩) k_3:=hle;rw[ae];refine lL ?_ ?_
  . rw[ei];refine⟨k_3,b,dA.trans hle0 hle1,X_1.prn.nn,⟨0,_,s,_,_,[],ks,[],rfl,rfl,rfl,X_1,qB.refl _ _ _,R0,by simp⟩,hb',fun c o hc e=>?_⟩;rw[e,hb'] at hc;cases hc
  rintro⟨xi,xb,xs,xv,xl,xp⟩ h' M' hc hinv hm2 hM1;rw[ei] at hinv;rw[em] at hm2;obtain⟨k0,b2,hlek,hk0,⟨j,u5,s5,s6,k5,pre,rest,a,hC,hks5,hj5,X5,G5,R5,ha⟩,hb2,hcb⟩:=hinv;simp[Ctx.push,Ctx.heap,Ctx.bare] at hC;obtain⟨rfl,rfl,rfl,rfl,⟨rfl,rfl⟩,⟨rfl,rfl⟩,rfl⟩:=hC;clear hc hM1 X_1 X R0 ho hle hle1 hle0;have hm':M' 0=((ks.length:Int) - (j:Int)).toNat:=hm2;have hsn5:s.n=ks.length:=by rw[R5.n,dK]
  have hlen5:ks.length=j+rest.length:=by rw[hks5,List.length_append,hj5]
  cases rest with
  | nil=>
    rw[List.length_nil] at hlen5;rw[aj,if_neg (by simp[go_sem];omega)];rw[fA,List.append_nil] at ha;subst ha;rw[ai];refine⟨by simp[go_sem]<;>omega,?_⟩;rw[ai];refine⟨by simp[go_sem]<;>omega,?_⟩;rw[ag,sbs];refine⟨b,sl,u5,s6,_,_,rfl,X5.prn,?_⟩;refine rR ⟨[],[],[fA ks],[],[],[]⟩ rfl af rfl ?_;rw[ak,ep];refine⟨h,fun c oo hc=>?_,hφ⟩;have hk3:=G5.keep c oo (hcb c oo hc) (fun z hz=>by cases hz) (hlek c oo hc);show (h'.drop s6) c=some oo;unfold Hp.drop;cases hs:s6.a with
    | none=>exact hk3
    | some z=>
      have hzc:c≠z.1:=fun e=>by
       rcases G5.new z hs with ⟨y,hy,_⟩ | hn
       . cases hy
       . rw[<- e,hlek c oo hc] at hn;cases hn
      show (h'.del z.1) c=some oo;unfold Hp.del;rw[if_neg hzc];exact hk3
  | cons t rest=>
    rw[List.length_cons] at hlen5;obtain⟨P1,hpa⟩:=uC PK hks5;have hWt:OO t:=W t (by rw[hks5];simp);rw[hj5] at hpa;obtain⟨q_5,y_5,hq_5,hj_5,hr_5⟩:=iH R5 j _ hpa;obtain⟨c6,o6,ha6,hp6,_,hk6⟩:=X5.cell P1;have hnext:∀ (u8:Bool) (s9:bM) (k8:Hp),mF k8 b sl l u8 s9 ((0:Nat):Int) (a++(kZ t++[10]))->qB k0 k8 b ⟨none,0,0⟩ s9->iy k8 s (places ((1:Nat):Int) ks)->EF k0 b sl l ks 0 ⟨[(j:Int)+1],[true],[],[],[sl,s],[some (b,0)],k8,df⟩:=fun u8 s9 k8 X8 G8 R8=>
     ⟨j+1,u8,s,s9,k8,pre++[t],rest,a++(kZ t++[10]),rfl,by rw[hks5];simp,by simp[hj5],X8,G8,R8,by rw[<- ha,fA];simp⟩
    have hAl:=congrArg List.length ha;rw[fA] at hAl;simp only[List.length_append,List.length_cons] at hAl;rw[aj,if_pos (by simp[go_sem];omega)];rw[ai];refine⟨by simp[go_sem,hq_5]<;>omega,?_⟩;refine rL ⟨[((0+1+Tr.ns pre:Nat):Int)],[],[],[],[],[]⟩ rfl af (by simpa[go_sem,hq_5] using hr_5) ?_;rw[ai];refine⟨by simp[go_sem,ha6]<;>omega,?_⟩;rw[ai];refine⟨by simp[go_sem,ha6]<;>omega,?_⟩;refine rL ⟨[t.g.k],[],[],[],[],[]⟩ rfl af ((congrArg (fun q=>hread h' q 1) (show _=some (c6,o6+(0+1+Tr.ns pre)*6+0) by simp[go_sem,ha6];omega)).trans hk6) ?_;cases hWt with
    | rc lt ct nt xt fs hf=>
      rw[U5] at hnext hAl;rw[ah,if_pos (by simp[go_sem,Tr.g])];rw[ag,sbt];refine⟨b,sl,l,u5,s6,_,a,0+1+Tr.ns pre,lt,ct,nt,xt,fs,rfl,X5,P1,hf,hl,⟨by omega,by omega⟩,fun u7 s8 k7 X7 G7=>?_⟩;refine rR ⟨[],[],[],[],[],[]⟩ rfl af rfl ?_;rw[ae,aK];intro b_8 hb_8;rw[ag,sb3];refine aW (ss:=[[10]]) X7 hb_8 (by simp;omega) (by simp) fun u8 s9 k8 X8 G8=>?_
      refine rR ⟨[],[],[],[],[],[]⟩ rfl af rfl ?_;rw[ai];refine⟨by simp[go_sem]<;>omega,?_⟩;rw[ae,says_again,ei,em];refine⟨⟨k0,b,hlek,hk0,hnext u8 s9 k8 (by simpa using X8) ((G5.trans G7 X5.prn.nn).trans G8 X7.prn.nn) ((R5.go X5.prn G7).go X7.prn G8),hb2,hcb⟩,?_⟩;show (((ks.length:Int) - ((j:Int)+1)).toNat)<M' 0;omega
    | fn lt ct xt ps r d hp hr hd=>
      rw[U4] at hnext hAl;rw[ah,if_neg (by simp[go_sem,Tr.g])];rw[ag,sbu];refine⟨b,sl,l,u5,s6,a,0+1+Tr.ns pre,lt,ct,_,xt,ps,r,d,rfl,X5,P1,hp,hr,hd,hl,⟨by omega,by omega⟩,fun u7 s8 k7 X7 G7=>?_⟩;refine rR ⟨[],[],[],[],[],[]⟩ rfl af rfl ?_;rw[ae,aK];intro b_8 hb_8;rw[ag,sb3];refine aW (ss:=[[10]]) X7 hb_8 (by simp;omega) (by simp) fun u8 s9 k8 X8 G8=>?_
      refine rR ⟨[],[],[],[],[],[]⟩ rfl af rfl ?_;rw[ai];refine⟨by simp[go_sem]<;>omega,?_⟩;rw[ae,says_again,ei,em];refine⟨⟨k0,b,hlek,hk0,hnext u8 s9 k8 (by simpa using X8) ((G5.trans G7 X5.prn.nn).trans G8 X7.prn.nn) ((R5.go X5.prn G7).go X7.prn G8),hb2,hcb⟩,?_⟩;show (((ks.length:Int) - ((j:Int)+1)).toNat)<M' 0;omega
end
theorem nz (k l c n:Int) (x:List UInt8) (ks:List Tr):(Tr.nd k l c n x ks).g=⟨k,l,c,(Tr.ns ks:Nat),n,x⟩:=rfl
def Jc (s:Tr):Bool:=fieldsB s.g&&fG s.g.k s.g.n (s.kl.map Tr.g)
def kW (t:Tr):Bool:=t.subs.all Jc
theorem GG:∀ (l:List Tr) (i:Nat),xQ (i+1) l=l.all Jc
 | [],_=>rfl
 | s::r,i=>by
   rw[xQ,GG r,List.all_cons];unfold okI Jc;rw[if_neg (Nat.succ_ne_zero i)]
theorem zh:∀ ks:List Tr,(Tr.yl ks).all Jc=ks.all kW
 | []=>rfl
 | t::ts=>by rw[Tr.yl,List.all_append,zh ts,List.all_cons,kW]
theorem gB (k l c n:Int) (x:List UInt8) (ks:List Tr):kW (.nd k l c n x ks)=(Jc (.nd k l c n x ks)&&ks.all kW):=by
 rw[kW,Tr.subs,List.all_cons,zh]
theorem TV (k l c n:Int) (x:List UInt8) (ks:List Tr):tC (.nd k l c n x ks)=(decide (k=1)&&fieldsB (Tr.nd k l c n x ks).g&&((ks.map Tr.g).all (wO [2,4])&&ks.all kW)):=by
 rw[tC,Tr.subs,xQ,GG,zh];rfl
theorem mO {x:List UInt8} (h:rG x):aT o8 x=true:=by
 obtain⟨h1,h2,h3,_⟩:=h;cases x with
 | nil=>simp[bt,jh] at h1
 | cons c r=>
   rw[fO] at h1;have ha:(c::r).all (fun c=>inB c.toNat)=true:=List.all_eq_true.2 h2;rw[aT,h3,ha];have:o8 c.toNat=true:=by
    unfold jh at h1;unfold o8;simp only[Bool.or_eq_true,beq_iff_eq,Bool.and_eq_true,iJ];split at h1
    . omega
    . split at h1
      . omega
      . split at h1<;>omega
   rw[this];rfl
theorem vC {x:List UInt8} (h:sF x):aT C9 x=true:=by
 obtain⟨h1,h2,_⟩:=h;cases x with
 | nil=>simp[bt,jh] at h1
 | cons c r=>
   have hw:jd (c::r)=false:=by
    cases hq:jd (c::r) with
    | false=>rfl
    | true=>
      have hall:∀ w∈U7,jh (bt w 0)≠2:=by decide
      have hm:(c::r)∈U7:=by simpa[jd] using hq
      exact absurd h1 (hall _ hm)
   rw[fO] at h1;have ha:(c::r).all (fun c=>inB c.toNat)=true:=List.all_eq_true.2 h2;rw[aT,hw,ha];have:C9 c.toNat=true:=by
    unfold jh at h1;unfold C9;simp only[Bool.and_eq_true,iJ];split at h1
    . omega
    . split at h1
      . omega
      . split at h1<;>omega
   rw[this];rfl
theorem agz {t:Tr} (W:yK t):Oo t.g=true:=by
 cases W with
 | word k l c h=>simp[ut,nz];omega
 | big=>rfl
 | list=>rfl
theorem yE {t:Tr} (W:jC t):wE t.g=true:=by
 cases W<;>rfl
theorem abA:∀ {ts:List Tr},sG ts->(ts.map Tr.g).all wE=true
 | [],_=>rfl
 | t::ts,.cons _ _ h hs=>by rw[List.map_cons,List.all_cons,yE h,abA hs];rfl
theorem UW {t:Tr} (W:yK t):kW t=true:=by
 induction W with
 | word k l c h=>
   rw[gB];have:k=15\/k=16\/k=17\/k=18:=by omega
   rcases this with rfl | rfl | rfl | rfl<;>rfl
 | big l c x h=>
   rw[gB];simp[Jc,nz,Tr.kl,fieldsB,fG,rowB,vC h]
 | list l c t h ih=>
   rw[gB];have:=agz h;simp only[List.all_cons,List.all_nil,ih,Bool.and_true];simp only[Jc,nz,Tr.kl,fieldsB,fG,rowB,List.map_cons,List.map_nil];simp[this]
theorem Vg (l c z n:Int) (h:n=12\/n=13):fieldsB ⟨30,l,c,z,n,[]⟩=true:=by
 rcases h with rfl | rfl<;>rfl
theorem Po (l c z n:Int) (h:(1<=n/\n<=11)\/n=14\/n=15):fieldsB ⟨31,l,c,z,n,[]⟩=true:=by
 have:n=1\/n=2\/n=3\/n=4\/n=5\/n=6\/n=7\/n=8\/n=9\/n=10\/n=11\/n=14\/n=15:=by omega
 rcases this with rfl | rfl | rfl | rfl | rfl | rfl | rfl | rfl | rfl | rfl | rfl | rfl | rfl<;>rfl
mutual
theorem mV:∀ {t:Tr},jC t->kW t=true
 | _,.int l c n h=>by rw[gB];simp[Jc,nz,Tr.kl,fieldsB,fG,rowB,leB,h.1]
 | _,.comp l c n h=>by rw[gB];simp[Jc,nz,Tr.kl,fieldsB,fG,rowB,leB,TM,h.1,show n<8388608 by omega]
 | _,.str l c x _=>by rw[gB];simp[Jc,nz,Tr.kl,fieldsB,fG,rowB]
 | _,.bool l c n h=>by rw[gB];rcases h with rfl | rfl<;>rfl
 | _,.nil l c=>by rw[gB];rfl
 | _,.name l c x h=>by rw[gB];simp[Jc,nz,Tr.kl,fieldsB,fG,rowB,mO h]
 | _,.call l c x h ks hk=>by
   have h1:=Oq hk;have h2:=abA hk;rw[gB,h1];simp only[Jc,nz,Tr.kl,fieldsB,fG];simp[mO h,h2]
 | _,.index l c a b ha hb=>by
   rw[gB,List.all_cons,List.all_cons,mV ha,mV hb];have h1:=yE ha;have h2:=yE hb;simp[Jc,nz,Tr.kl,fieldsB,fG,rowB,h1,h2]
 | _,.dot l c x h a ha=>by
   rw[gB,List.all_cons,mV ha];have h1:=yE ha;simp[Jc,nz,Tr.kl,fieldsB,fG,rowB,h1,mO h]
 | _,.un l c n h a ha=>by
   rw[gB,List.all_cons,mV ha];have h1:=yE ha;rw[Jc,nz,Vg _ _ _ _ h];simp[Tr.kl,fG,rowB,h1]
 | _,.bin l c n h a b ha hb=>by
   rw[gB,List.all_cons,List.all_cons,mV ha,mV hb];have h1:=yE ha;have h2:=yE hb;rw[Jc,nz,Po _ _ _ _ h];simp[Tr.kl,fG,rowB,h1,h2]
 | _,.make l c l' c' x h=>by
   rw[gB,List.all_cons,UW (.big l' c' x h)];rfl
 | _,.makes l c l' c' t ht b hb=>by
   rw[gB,List.all_cons,List.all_cons,UW (.list l' c' t ht),mV hb];have h2:=yE hb;simp[Jc,nz,Tr.kl,fieldsB,fG,rowB,h2]
theorem Oq:∀ {ts:List Tr},sG ts->ts.all kW=true
 | [],_=>rfl
 | t::ts,.cons _ _ h hs=>by rw[List.all_cons,mV h,Oq hs];rfl
end
theorem Zy {t:Tr} (W:jC t):tC (yG 12 t)=true:=by
 have h1:=yE W;have h2:=mV W;unfold yG;rw[TV];simp only[List.all_cons,List.all_nil,gB,h2,Bool.and_true];have e:fG 12 0 [t.g]=true:=by simp[fG,stB,rowB,h1]
 have f:aT o8 [102]=true:=by decide
 simp only[Jc,Tr.kl,List.map_cons,List.map_nil];simp[nz,fieldsB,f,fG,YM,stB,rowB,h1,leB];simp[ut]
mutual
def KC:Tr->Nat
 | .nd k _ _ _ _ ks=>
   if k=7 then (match ks with | a::b::_=>max (XC a) (dp b) | _=>0)
   else if k=8 then (match ks with | a::b::_=>max (dp a) (dp b) | _=>0)
   else if k=9 then (match ks with | a::bs=>max (dp a) (Pj bs) | _=>0)
   else if k=10 then (match ks with | a::b::_=>max (dp a) (dpB b) | _=>0)
   else (match ks with | a::_=>dp a | []=>0)
def dpB:Tr->Nat
 | .nd _ _ _ _ _ ks=>Pm ks+1
def Pj:List Tr->Nat
 | []=>0
 | b::bs=>max (dpB b) (Pj bs)
def Pm:List Tr->Nat
 | []=>0
 | t::ts=>max (KC t) (Pm ts)
end
def kdT:Tr->Nat
 | .nd _ _ _ _ _ ks=>match ks with | k::_=>XC k | []=>0
def Dh:List Tr->Nat
 | []=>0
 | t::ts=>max (kdT t) (Dh ts)
def abY (ps:List Tr) (r b:Tr):Nat:=max (Dh ps+1) (max (XC r) (dpB b))
def BV:Tr->Nat
 | .nd k _ _ n _ ks=>if k=2 then Dh ks+1 else match ks.drop n.toNat with
   | r::b::_=>abY (ks.take n.toNat) r b
   | _=>0
def l9:List Tr->Nat
 | []=>0
 | t::ts=>max (BV t) (l9 ts)
section
variable (l c n:Int) (x:List UInt8)
theorem ab1 (a b:Tr):KC (.nd 7 l c n x [a,b])=max (XC a) (dp b):=by rw[KC.eq_def];simp
theorem abZ (a b:Tr):KC (.nd 8 l c n x [a,b])=max (dp a) (dp b):=by rw[KC.eq_def];simp
theorem Yr (a:Tr) (bs:List Tr):KC (.nd 9 l c n x (a::bs))=max (dp a) (Pj bs):=by rw[KC.eq_def];simp
theorem Vf (a b:Tr):KC (.nd 10 l c n x [a,b])=max (dp a) (dpB b):=by rw[KC.eq_def];simp
theorem Yt (a:Tr):KC (.nd 11 l c n x [a])=dp a:=by rw[KC.eq_def];simp
theorem Ve (a:Tr):KC (.nd 12 l c n x [a])=dp a:=by rw[KC.eq_def];simp
theorem aeA (a:Tr):KC (.nd 13 l c n x [a])=dp a:=by rw[KC.eq_def];simp
theorem Yq (k:Int) (ks:List Tr):dpB (.nd k l c n x ks)=Pm ks+1:=by rw[dpB.eq_def]
end
def JH:List (List UInt8):=[jq,gz,oh,dX,[40],[45],[33]]
theorem abp {t:Tr} (w:jC t):∃ k n x S,dG t=(k,n,x)::S/\((k=6\/k=7)->x∈JH):=by
 have brk':∀ {a:Tr} {b:Bool} {S:List T3},(∃ k n x S,dG a=(k,n,x)::S/\((k=6\/k=7)->x∈JH))->∃ k n x S',rJ b (dG a)++S=(k,n,x)::S'/\((k=6\/k=7)->x∈JH):=by
  rintro a b S ⟨k,n,x,S',e,h1⟩;cases b with
  | true=>exact⟨7,0,[40],_,rfl,fun _=>by decide⟩
  | false=>
    unfold rJ;rw[if_neg (by decide),e];exact⟨k,n,x,_,rfl,h1⟩
 refine jC.rec (motive_1:=fun t _=>∃ k n x S,dG t=(k,n,x)::S/\((k=6\/k=7)->x∈JH)) (motive_2:=fun _ _=>True) ?_ ?_ ?_ ?_ ?_ ?_ ?_ ?_ ?_ ?_ ?_ ?_ ?_ ?_ ?_ w
 . intro l c n h;exact⟨3,n,[],[],rfl,fun h=>by omega⟩
 . intro l c n h;exact⟨4,n,[],[],rfl,fun h=>by omega⟩
 . intro l c x _;exact⟨5,0,x,[],rfl,fun h=>by omega⟩
 . intro l c n h;rcases h with rfl | rfl
   . exact⟨6,0,gz,[],rfl,fun _=>by decide⟩
   . exact⟨6,0,jq,[],rfl,fun _=>by decide⟩
 . intro l c;exact⟨6,0,oh,[],rfl,fun _=>by decide⟩
 . intro l c x h;exact⟨1,0,x,[],by rw[dG.eq_def];simp,fun h=>by omega⟩
 . intro l c x h ks _ _;exact⟨1,0,x,_,Bq ..,fun h=>by omega⟩
 . intro l c a b _ _ ia _;rw[yw];exact brk' ia
 . intro l c x _ a _ ia;rw[Jz];exact brk' ia
 . intro l c n h a _ _;rw[UO];exact⟨7,0,[if n=12 then 45 else 33],_,rfl,fun _=>by rcases h with rfl | rfl<;>decide⟩
 . intro l c n h a b _ _ ia _;rw[Jy];exact brk' ia
 . intro l c l' c' x _;exact⟨6,0,dX,_,oO ..,fun _=>by decide⟩
 . intro l c l' c' t _ b _ _;exact⟨6,0,dX,_,oO ..,fun _=>by decide⟩
 . trivial
 . intro t ts _ _ _ _;trivial
section
variable {L:List Tok} {S T:List T3} {a:Nat} {d:Int}
theorem afT {k n:Int} {x:List UInt8} (h:bV L a ((k,n,x)::T)) (hx:(k=6\/k=7)->x∈JH) {s:List UInt8} (hs:s∉JH):dm L s (gs a d)=false:=by
 rw[h.is,Bool.and_eq_false_iff];by_cases hk:k=6\/k=7
 . right;rw[beq_eq_false_iff_ne];intro e;subst e;exact hs (hx hk)
 . left;simp only[Bool.or_eq_false_iff,beq_eq_false_iff_ne];exact⟨fun h=>hk (.inl h),fun h=>hk (.inr h)⟩
theorem oK {x s:List UInt8} (h:bV L a (wd x::T)) (hs:x≠s):dm L s (gs a d)=false:=by
 have h':bV L a ((6,0,x)::T):=h;rw[h'.is];simp[hs]
theorem pJ {t:Tr} (w:jC t) (h:bV L a (dG t++T)) {s:List UInt8} (hs:s∉JH):dm L s (gs a d)=false:=by
 obtain⟨k,n,x,S',e,hx⟩:=abp w;rw[e] at h;have h':bV L a ((k,n,x)::(S'++T)):=h;exact afT h' hx hs
theorem xq {t:Tr} (w:jC t) (h:bV L a (dG t++T)) (hd:(dp t:Int)+d<=40) (hs:Stp 1 T):∃ t':Tr,t'.bare=t.bare/\Ev (fun n=>dW L n 1 (gs a d)) (t',gs (a+(dG t).length) d):=
 (afy w L a d T h hd).2.1 1 (by decide) (by decide) qO hs
end
def aer (T:List T3):Prop:=∃ k n x T',T=(k,n,x)::T'/\((k=6\/k=7)->x≠nU)
def Zs (t:Tr):Prop:=∀ (L:List Tok) (a:Nat) (d:Int) (T:List T3),bV L a (sto t++T)->(KC t:Int)+d<=40->aer T->(∃ t':Tr,t'.bare=t.bare/\Ev (fun n=>iw L n (gs a d)) (t',gs (a+(sto t).length) d))/\dm L [125] (gs a d)=false
def Zb (t:Tr):Prop:=∀ (L:List Tok) (a:Nat) (d:Int) (T:List T3),bV L a (qH t++T)->(dpB t:Int)+d<=40->∃ t':Tr,t'.bare=t.bare/\Ev (fun n=>eX L n (gs a d)) (t',gs (a+(qH t).length) d)
def Zss (ts:List Tr):Prop:=∀ (L:List Tok) (a:Nat) (d:Int) (T:List T3),bV L a (lF ts++(sT [125]::T))->(Pm ts:Int)+d<=40->∃ ts':List Tr,bH ts'=bH ts/\∀ acc,Ev (fun n=>fP L n acc (gs a d)) (acc++ts',gs (a+(lF ts).length) d)
theorem Ue {a:Tr} (w:jC a) (S:List T3):aer (dG a++S):=by
 obtain⟨k,n,x,S',e,h⟩:=abp w;rw[e];exact⟨k,n,x,_,rfl,fun hk e=>by
  have:=h hk;rw[e] at this
  revert this;decide⟩
theorem Ws {ts:List Tr} (w:qC ts) (T:List T3):aer (lF ts++(sT [125]::T)):=by
 cases w with
 | nil=>exact⟨7,0,[125],T,rfl,fun _=>by decide⟩
 | cons t ts h _=>
   have e2:lF (t::ts)++(sT [125]::T)=sto t++(lF ts++(sT [125]::T)):=by simp[lF]
   rw[e2];cases h with
   | var l c x hx a b ha hb=>rw[Bj];exact⟨6,0,lX,_,rfl,fun _=>by decide⟩
   | set l c a b ha hk hb=>rw[Bi,List.append_assoc];exact Ue ha _
   | if1 l c a b ha hb=>rw[tY];exact⟨6,0,wM,_,rfl,fun _=>by decide⟩
   | if2 l c a b e ha hb he=>rw[tY];exact⟨6,0,wM,_,rfl,fun _=>by decide⟩
   | while_ l c a b ha hb=>rw[uQ];exact⟨6,0,fK,_,rfl,fun _=>by decide⟩
   | ret0 l c=>rw[yg];exact⟨6,0,dC,_,rfl,fun _=>by decide⟩
   | ret1 l c a ha=>rw[yh];exact⟨6,0,dC,_,rfl,fun _=>by decide⟩
   | print l c a ha=>rw[uP];exact⟨6,0,fQ,_,rfl,fun _=>by decide⟩
   | do_ l c a ha hk=>rw[Ju,List.append_assoc];exact Ue ha _
theorem Zm {t u:Tr} (h:t.bare=u.bare):t.k=u.k:=by
 have:=congrArg Tr.k h;cases t;cases u;exact this
set_option maxHeartbeats 1000000 in
theorem afB {ts:List Tr} (w:qC ts):Zss ts:=by
 refine qC.rec (motive_1:=fun t _=>Zs t) (motive_2:=fun t _=>Zb t) (motive_3:=fun ts _=>Zss ts) ?_ ?_ ?_ ?_ ?_ ?_ ?_ ?_ ?_ ?_ ?_ ?_ w
 . intro l c x hx k b hk hb L a d T h hd _;rw[ab1] at hd;have e2:sto (.nd 7 l c 0 x [k,b])++T=wd lX::(1,0,x)::sT [58]::(nG k++(sT [61]::(dG b++(sT [59]::T)))):=by rw[Bj];simp
   rw[e2] at h;have h1:=(h.hd (d:=d)).2.2.2;obtain⟨_,_,g3,h2⟩:=h1.hd (d:=d);have h3:=(h2.hd (d:=d)).2.2.2;obtain⟨k',hbk,hEk⟩:=xu hk h3 (d:=d) (by omega);have h4:=h3.app;have h5:=(h4.hd (d:=d)).2.2.2;obtain⟨b',hbb,hEb⟩:=xq hb h5 (d:=d) (by omega) (gy (by decide));have h6:=h5.app;refine⟨⟨nd 7 (tk L (gs a d)) 0 (tk L (gs (a+1) d)).x [k',b'],by rw[dR,g3];simp[bH,hbk,hbb,Tr.bare],?_⟩,by rw[h.is];decide⟩;refine Ev.succ (g:=fun n=>(fD L n (gs (a+1+1+1) d)).bind fun r=>(dW L n 1 (bC L [61] r.2)).map fun y=>(nd 7 (tk L (gs a d)) 0 (tk L (gs (a+1) d)).x [r.1,y.1],bC L [59] y.2)) ?_ fun n=>?_
   . refine hEk.bind ?_;simp only[h4.must];have:=hEb.map (g:=fun y=>(nd 7 (tk L (gs a d)) 0 (tk L (gs (a+1) d)).x [k',y.1],bC L [59] y.2));simp only[h6.must] at this;rw[show a+(sto (.nd 7 l c 0 x [k,b])).length=a+1+1+1+(nG k).length+1+(dG b).length+1 by rw[Bj];simp;omega];exact this
   . simp only[iw,h.word,if_true,h.pass (show (6:Int)≠8 by decide),h1.wd (show (1:Int)≠8 by decide),h2.must]
 . intro l c x b hx hk hb L a d T h hd _;rw[abZ] at hd;have e2:sto (.nd 8 l c 0 [] [x,b])++T=dG x++(sT [61]::(dG b++(sT [59]::T))):=by rw[Bi];simp
   rw[e2] at h;obtain⟨x',hbx,hEx⟩:=xq hx h (d:=d) (by omega) (gy (by decide));have h1:=h.app;have h2:=(h1.hd (d:=d)).2.2.2;obtain⟨b',hbb,hEb⟩:=xq hb h2 (d:=d) (by omega) (gy (by decide));have h3:=h2.app;have hkk:=Zm hbx;refine⟨⟨nd 8 (tk L (gs a d)) 0 [] [x',b'],by rw[dR];simp[bH,hbx,hbb,Tr.bare],?_⟩,pJ hx h (by decide)⟩;refine Ev.succ (g:=fun n=>ja L n (tk L (gs a d)) (gs a d)) ?_ fun n=>?_
   . unfold ja;refine hEx.bind ?_;have hc:(x'.k==26||x'.k==28||x'.k==29)=true:=by
      rw[hkk];rcases hk with h | h | h<;>rw[h]<;>decide
     simp only[dI,h1.yes,hc,Bool.and_self,if_true,Bool.false_eq_true,if_false,h1.pass (show (7:Int)≠8 by decide)];have:=hEb.map (g:=fun y=>(nd 8 (tk L (gs a d)) 0 [] [x',y.1],bC L [59] y.2));simp only[h3.must] at this;rw[show a+(sto (.nd 8 l c 0 [] [x,b])).length=a+(dG x).length+1+(dG b).length+1 by rw[Bi];simp;omega];exact this
   . simp only[iw,pJ hx h (show lX∉JH by decide),pJ hx h (show wM∉JH by decide),pJ hx h (show fK∉JH by decide),pJ hx h (show dC∉JH by decide),pJ hx h (show fQ∉JH by decide),Bool.false_eq_true,if_false]
 . intro l c x b hx _ ib L a d T h hd hT;rw[Yr] at hd;have hdb:Pj [b]=dpB b:=by simp[Pj]
   rw[hdb] at hd;have e2:sto (.nd 9 l c 0 [] [x,b])++T=wd wM::(dG x++(qH b++T)):=by rw[tY];simp[eto]
   rw[e2] at h;have h1:=(h.hd (d:=d)).2.2.2;obtain⟨x',hbx,hEx⟩:=xq hx h1 (d:=d) (by omega) (by cases b;rw[oV];exact gy (by decide));have h2:=h1.app;obtain⟨b',hbb,hEb⟩:=ib L _ d T h2 (by omega);have h3:=h2.app;have hel:dm L nU (gs (a+1+(dG x).length+(qH b).length) d)=false:=by
    obtain⟨k,n,y,T',rfl,hy⟩:=hT;rw[h3.is,Bool.and_eq_false_iff];by_cases hk:k=6\/k=7
    . right;rw[beq_eq_false_iff_ne];exact hy hk
    . left;simp only[Bool.or_eq_false_iff,beq_eq_false_iff_ne];exact⟨fun h=>hk (.inl h),fun h=>hk (.inr h)⟩
   refine⟨⟨nd 9 (tk L (gs a d)) 0 [] [x',b'],by rw[dR];simp[bH,hbx,hbb,Tr.bare],?_⟩,by rw[h.is];decide⟩;refine Ev.succ (g:=fun n=>(dW L n 1 (gs (a+1) d)).bind fun r=>(eX L n r.2).bind fun b=>if dm L nU b.2 then (eX L n (bF L b.2)).map fun e=>(nd 9 (tk L (gs a d)) 0 [] [r.1,b.1,e.1],e.2) else some (nd 9 (tk L (gs a d)) 0 [] [r.1,b.1],b.2)) ?_ fun n=>?_
   . refine hEx.bind (hEb.bind ?_);simp only[hel,Bool.false_eq_true,if_false];rw[show a+(sto (.nd 9 l c 0 [] [x,b])).length=a+1+(dG x).length+(qH b).length by rw[tY];simp[eto];omega];exact .const _
   . simp only[iw,h.word,h.pass (show (6:Int)≠8 by decide),oK h (show wM≠lX by decide),Bool.false_eq_true,if_false,if_true]
 . intro l c x b e hx _ _ ib ie L a d T h hd _;rw[Yr] at hd;have hdb:Pj [b,e]=max (dpB b) (dpB e):=by simp[Pj]
   rw[hdb] at hd;have e2:sto (.nd 9 l c 0 [] [x,b,e])++T=wd wM::(dG x++(qH b++(wd nU::(qH e++T)))):=by rw[tY];simp[eto]
   rw[e2] at h;have h1:=(h.hd (d:=d)).2.2.2;obtain⟨x',hbx,hEx⟩:=xq hx h1 (d:=d) (by omega) (by cases b;rw[oV];exact gy (by decide));have h2:=h1.app;obtain⟨b',hbb,hEb⟩:=ib L _ d _ h2 (by omega);have h3:=h2.app;have h4:=(h3.hd (d:=d)).2.2.2;obtain⟨e',hbe,hEe⟩:=ie L _ d T h4 (by omega);refine⟨⟨nd 9 (tk L (gs a d)) 0 [] [x',b',e'],by rw[dR];simp[bH,hbx,hbb,hbe,Tr.bare],?_⟩,by rw[h.is];decide⟩;refine Ev.succ (g:=fun n=>(dW L n 1 (gs (a+1) d)).bind fun r=>(eX L n r.2).bind fun b=>if dm L nU b.2 then (eX L n (bF L b.2)).map fun e=>(nd 9 (tk L (gs a d)) 0 [] [r.1,b.1,e.1],e.2) else some (nd 9 (tk L (gs a d)) 0 [] [r.1,b.1],b.2)) ?_ fun n=>?_
   . refine hEx.bind (hEb.bind ?_);simp only[h3.word,if_true,h3.pass (show (6:Int)≠8 by decide)];have:=hEe.map (g:=fun e=>(nd 9 (tk L (gs a d)) 0 [] [x',b',e.1],e.2));rw[show a+(sto (.nd 9 l c 0 [] [x,b,e])).length=a+1+(dG x).length+(qH b).length+1+(qH e).length by rw[tY];simp[eto];omega];exact this
   . simp only[iw,h.word,h.pass (show (6:Int)≠8 by decide),oK h (show wM≠lX by decide),Bool.false_eq_true,if_false,if_true]
 . intro l c x b hx _ ib L a d T h hd _;rw[Vf] at hd;have e2:sto (.nd 10 l c 0 [] [x,b])++T=wd fK::(dG x++(qH b++T)):=by rw[uQ];simp
   rw[e2] at h;have h1:=(h.hd (d:=d)).2.2.2;obtain⟨x',hbx,hEx⟩:=xq hx h1 (d:=d) (by omega) (by cases b;rw[oV];exact gy (by decide));have h2:=h1.app;obtain⟨b',hbb,hEb⟩:=ib L _ d T h2 (by omega);refine⟨⟨nd 10 (tk L (gs a d)) 0 [] [x',b'],by rw[dR];simp[bH,hbx,hbb,Tr.bare],?_⟩,by rw[h.is];decide⟩;refine Ev.succ (g:=fun n=>(dW L n 1 (gs (a+1) d)).bind fun r=>(eX L n r.2).map fun b=>(nd 10 (tk L (gs a d)) 0 [] [r.1,b.1],b.2)) ?_ fun n=>?_
   . refine hEx.bind ?_;have:=hEb.map (g:=fun b=>(nd 10 (tk L (gs a d)) 0 [] [x',b.1],b.2));rw[show a+(sto (.nd 10 l c 0 [] [x,b])).length=a+1+(dG x).length+(qH b).length by rw[uQ];simp;omega];exact this
   . simp only[iw,h.word,h.pass (show (6:Int)≠8 by decide),oK h (show fK≠lX by decide),oK h (show fK≠wM by decide),Bool.false_eq_true,if_false,if_true]
 . intro l c L a d T h hd _;rw[yg] at h;have h':bV L a (wd dC::sT [59]::T):=h;have h1:=(h'.hd (d:=d)).2.2.2;refine⟨⟨nd 11 (tk L (gs a d)) 0 [] [],rfl,.of 1 fun n hn=>?_⟩,by rw[h'.is];decide⟩;obtain⟨m,rfl⟩:∃ m,n=m+1:=⟨n - 1,by omega⟩;simp only[iw,h'.word,h'.pass (show (6:Int)≠8 by decide),oK h' (show dC≠lX by decide),oK h' (show dC≠wM by decide),oK h' (show dC≠fK by decide),Bool.false_eq_true,if_false,if_true,h1.yes,h1.must];rw[yg];rfl
 . intro l c x hx L a d T h hd _;rw[Yt] at hd;have e2:sto (.nd 11 l c 0 [] [x])++T=wd dC::(dG x++(sT [59]::T)):=by rw[yh];simp
   rw[e2] at h;have h1:=(h.hd (d:=d)).2.2.2;obtain⟨x',hbx,hEx⟩:=xq hx h1 (d:=d) hd (gy (by decide));have h2:=h1.app;refine⟨⟨nd 11 (tk L (gs a d)) 0 [] [x'],by rw[dR];simp[bH,hbx,Tr.bare],?_⟩,by rw[h.is];decide⟩;refine Ev.succ (g:=fun n=>(dW L n 1 (gs (a+1) d)).map fun r=>(nd 11 (tk L (gs a d)) 0 [] [r.1],bC L [59] r.2)) ?_ fun n=>?_
   . have:=hEx.map (g:=fun r=>(nd 11 (tk L (gs a d)) 0 [] [r.1],bC L [59] r.2));simp only[h2.must] at this;rw[show a+(sto (.nd 11 l c 0 [] [x])).length=a+1+(dG x).length+1 by rw[yh];simp;omega];exact this
   . simp only[iw,h.word,h.pass (show (6:Int)≠8 by decide),oK h (show dC≠lX by decide),oK h (show dC≠wM by decide),oK h (show dC≠fK by decide),Bool.false_eq_true,if_false,if_true,pJ hx h1 (show [59]∉JH by decide)]
 . intro l c x hx L a d T h hd _;rw[Ve] at hd;have e2:sto (.nd 12 l c 0 [] [x])++T=wd fQ::(dG x++(sT [59]::T)):=by rw[uP];simp
   rw[e2] at h;have h1:=(h.hd (d:=d)).2.2.2;obtain⟨x',hbx,hEx⟩:=xq hx h1 (d:=d) hd (gy (by decide));have h2:=h1.app;refine⟨⟨nd 12 (tk L (gs a d)) 0 [] [x'],by rw[dR];simp[bH,hbx,Tr.bare],?_⟩,by rw[h.is];decide⟩;refine Ev.succ (g:=fun n=>(dW L n 1 (gs (a+1) d)).map fun r=>(nd 12 (tk L (gs a d)) 0 [] [r.1],bC L [59] r.2)) ?_ fun n=>?_
   . have:=hEx.map (g:=fun r=>(nd 12 (tk L (gs a d)) 0 [] [r.1],bC L [59] r.2));simp only[h2.must] at this;rw[show a+(sto (.nd 12 l c 0 [] [x])).length=a+1+(dG x).length+1 by rw[uP];simp;omega];exact this
   . simp only[iw,h.word,h.pass (show (6:Int)≠8 by decide),oK h (show fQ≠lX by decide),oK h (show fQ≠wM by decide),oK h (show fQ≠fK by decide),oK h (show fQ≠dC by decide),Bool.false_eq_true,if_false,if_true]
 . intro l c x hx hk L a d T h hd _;rw[aeA] at hd;have e2:sto (.nd 13 l c 0 [] [x])++T=dG x++(sT [59]::T):=by rw[Ju];simp
   rw[e2] at h;obtain⟨x',hbx,hEx⟩:=xq hx h (d:=d) hd (gy (by decide));have h1:=h.app;have hkk:=Zm hbx;refine⟨⟨nd 13 (tk L (gs a d)) 0 [] [x'],by rw[dR];simp[bH,hbx,Tr.bare],?_⟩,pJ hx h (by decide)⟩;refine Ev.succ (g:=fun n=>ja L n (tk L (gs a d)) (gs a d)) ?_ fun n=>?_
   . unfold ja;refine hEx.bind ?_;have h61:dm L [61] (gs (a+(dG x).length) d)=false:=by rw[h1.is];decide
     have hc:(x'.k==27)=true:=by rw[hkk,hk];decide
     simp only[dI,h61,hc,Bool.false_and,Bool.false_eq_true,if_false,Bool.not_true,Bool.or_self,h1.must];rw[show a+(sto (.nd 13 l c 0 [] [x])).length=a+(dG x).length+1 by rw[Ju];simp;omega];exact .const _
   . simp only[iw,pJ hx h (show lX∉JH by decide),pJ hx h (show wM∉JH by decide),pJ hx h (show fK∉JH by decide),pJ hx h (show dC∉JH by decide),pJ hx h (show fQ∉JH by decide),Bool.false_eq_true,if_false]
 . intro l c ks _ ih L a d T h hd;rw[Yq] at hd;have e2:qH (.nd 6 l c 0 [] ks)++T=sT [123]::(lF ks++(sT [125]::T)):=by rw[oV];simp
   rw[e2] at h;have h1:=(h.hd (d:=d)).2.2.2;obtain⟨ks',hb,hE⟩:=ih L _ (d+1) T h1 (by omega);have h2:=h1.app;refine⟨nd 6 (tk L (gs a d)) 0 [] ks',by rw[dR,hb];rfl,?_⟩;refine Ev.succ (g:=fun n=>(fP L n [] (gs (a+1) (d+1))).map fun r=>(nd 6 (tk L (gs a d)) 0 [] r.1,dw L [125] r.2)) ?_ fun n=>?_
   . have:=(hE []).map (g:=fun r=>(nd 6 (tk L (gs a d)) 0 [] r.1,dw L [125] r.2));simp only[h2.shut,List.nil_append] at this;rw[show a+(qH (.nd 6 l c 0 [] ks)).length=a+1+(lF ks).length+1 by rw[oV];simp;omega];exact this
   . simp only[eX,h.opens (show d+1<=40 by omega)]
 . intro L a d T h _;have h':bV L a (sT [125]::T):=h;refine⟨[],rfl,fun acc=>.of 1 fun n hn=>?_⟩;obtain⟨m,rfl⟩:∃ m,n=m+1:=⟨n - 1,by omega⟩;simp only[fP,dI,h'.yes,Bool.or_true,if_true,List.append_nil];rfl
 . intro t ts _ ws it its L a d T h hd;have hds:Pm (t::ts)=max (KC t) (Pm ts):=by simp[Pm]
   rw[hds] at hd;have e2:lF (t::ts)++(sT [125]::T)=sto t++(lF ts++(sT [125]::T)):=by simp[lF]
   rw[e2] at h;obtain⟨⟨t',hb,hE⟩,h125⟩:=it L a d _ h (by omega) (Ws ws T);obtain⟨ts',hbs,hEs⟩:=its L _ d T h.app (by omega);refine⟨t'::ts',by simp[bH,hb,hbs],fun acc=>?_⟩;refine Ev.succ (g:=fun n=>(iw L n (gs a d)).bind fun r=>fP L n (acc++[r.1]) r.2) ?_ fun n=>?_
   . have:=hE.bind (g:=fun n r=>fP L n (acc++[r.1]) r.2) (hEs (acc++[t']));rw[show a+(lF (t::ts)).length=a+(sto t).length+(lF ts).length by simp[lF];omega];simpa using this
   . simp only[fP,dI,h125,Bool.or_self,Bool.false_eq_true,if_false]
theorem Yz {b:Tr} (w:JQ b):Zb b:=by
 cases w with
 | blk l c ks hs=>
   intro L a d T h hd;rw[Yq] at hd;have e2:qH (.nd 6 l c 0 [] ks)++T=sT [123]::(lF ks++(sT [125]::T)):=by rw[oV];simp
   rw[e2] at h;have h1:=(h.hd (d:=d)).2.2.2;obtain⟨ks',hb,hE⟩:=afB hs L _ (d+1) T h1 (by omega);have h2:=h1.app;refine⟨nd 6 (tk L (gs a d)) 0 [] ks',by rw[dR,hb];rfl,?_⟩;refine Ev.succ (g:=fun n=>(fP L n [] (gs (a+1) (d+1))).map fun r=>(nd 6 (tk L (gs a d)) 0 [] r.1,dw L [125] r.2)) ?_ fun n=>?_
   . have:=(hE []).map (g:=fun r=>(nd 6 (tk L (gs a d)) 0 [] r.1,dw L [125] r.2));simp only[h2.shut,List.nil_append] at this;rw[show a+(qH (.nd 6 l c 0 [] ks)).length=a+1+(lF ks).length+1 by rw[oV];simp;omega];exact this
   . simp only[eX,h.opens (show d+1<=40 by omega)]
section
variable {L:List Tok} {T:List T3} {a:Nat} {d:Int}
theorem KH {k:Int} {t:Tr} (w:zB k t) (h:bV L a (Bv t++T)) (hd:(kdT t:Int)+d<=40):∃ t':Tr,t'.bare=t.bare/\Ev (fun n=>gq L n k (gs a d)) (t',gs (a+(Bv t).length) d):=by
 cases w with
 | mk l c x hx y hy=>
   have e2:Bv (.nd k l c 0 x [y])=(1,0,x)::sT [58]::nG y:=by simp[Bv]
   have e3:kdT (.nd k l c 0 x [y])=XC y:=by simp[kdT]
   rw[e2] at h⊢;rw[e3] at hd;have h':bV L a ((1,0,x)::sT [58]::(nG y++T)):=h;obtain⟨_,_,g3,h1⟩:=h'.hd (d:=d);have h2:=(h1.hd (d:=d)).2.2.2;obtain⟨y',hb,hE⟩:=xu hy h2 (d:=d) hd;refine⟨nd k (tk L (gs a d)) 0 (tk L (gs a d)).x [y'],by rw[dR,g3];simp[bH,hb,Tr.bare],?_⟩;unfold gq;rw[h'.wd (by decide),h1.must];have:=hE.map (g:=fun r=>(nd k (tk L (gs a d)) 0 (tk L (gs a d)).x [r.1],r.2));rw[show a+((1,0,x)::sT [58]::nG y).length=a+1+1+(nG y).length by simp;omega];exact this
theorem ael {k:Int} {t:Tr} (w:zB k t) (h:bV L a (Bv t++T)) (s:List UInt8):dm L s (gs a d)=false:=by
 cases w with
 | mk l c x hx y hy=>
   have h':bV L a ((1,0,x)::sT [58]::(nG y++T)):=by simpa[Bv] using h
   rw[h'.is];simp
theorem Fg:∀ {fs:List Tr},(∀ t∈fs,zB 3 t)->∀ {a:Nat},bV L a (rW fs++(sT [125]::T))->(Dh fs:Int)+d<=40->∃ fs':List Tr,bH fs'=bH fs/\∀ acc,Ev (fun n=>fF L n acc (gs a d)) (acc++fs',gs (a+(rW fs).length) d)
 | [],_,a,h,_=>by
   have h':bV L a (sT [125]::T):=h;refine⟨[],rfl,fun acc=>.of 1 fun n hn=>?_⟩;obtain⟨m,rfl⟩:∃ m,n=m+1:=⟨n - 1,by omega⟩;simp only[fF,dI,h'.yes,Bool.or_true,if_true,List.append_nil];rfl
 | t::ts,w,a,h,hd=>by
   have hk:Dh (t::ts)=max (kdT t) (Dh ts):=rfl;rw[hk] at hd;have e2:rW (t::ts)++(sT [125]::T)=Bv t++(sT [59]::(rW ts++(sT [125]::T))):=by simp[rW]
   rw[e2] at h;have wt:=w t (by simp);obtain⟨t',hb,hE⟩:=KH wt h (d:=d) (by omega);have h1:=h.app;have h2:=(h1.hd (d:=d)).2.2.2;obtain⟨ts',hbs,hEs⟩:=Fg (fun y hy=>w y (by simp[hy])) h2 (by omega);refine⟨t'::ts',by simp[bH,hb,hbs],fun acc=>?_⟩;refine Ev.succ (g:=fun n=>(gq L n 3 (gs a d)).bind fun r=>fF L n (acc++[r.1]) (bC L [59] r.2)) ?_ fun n=>?_
   . refine hE.bind ?_;simp only[h1.must];have:=hEs (acc++[t']);rw[show a+(rW (t::ts)).length=a+(Bv t).length+1+(rW ts).length by simp[rW];omega];simpa using this
   . simp only[fF,dI,ael wt h,Bool.or_self,Bool.false_eq_true,if_false]
theorem Fh:∀ {ps:List Tr},(∀ t∈ps,zB 5 t)->∀ {a:Nat},(Dh ps:Int)+d<=40->
 (bV L a (ql ps++(sT [41]::T))->∃ ps':List Tr,bH ps'=bH ps/\∀ acc,Ev (fun n=>dN L n false acc (gs a d)) (acc++ps',gs (a+(ql ps).length) d))/\
 (bV L a (wH ps++(sT [41]::T))->∃ ps':List Tr,bH ps'=bH ps/\Ev (fun n=>dN L n true [] (gs a d)) (ps',gs (a+(wH ps).length) d))
 | [],_,a,_=>by
   have stop:∀ (h:bV L a (sT [41]::T)) (f:Bool) (acc:List Tr),Ev (fun n=>dN L n f acc (gs a d)) (acc,gs a d):=fun h f acc=>.of 1 fun n hn=>by
    obtain⟨m,rfl⟩:∃ m,n=m+1:=⟨n - 1,by omega⟩;simp only[dN,dI,h.yes,Bool.or_true,if_true]
   exact⟨fun h=>⟨[],rfl,fun acc=>by simpa[ql] using stop h false acc⟩,fun h=>⟨[],rfl,by simpa[wH] using stop h true []⟩⟩
 | t::ts,w,a,hd=>by
   have hk:Dh (t::ts)=max (kdT t) (Dh ts):=rfl;rw[hk] at hd;have wt:=w t (by simp);have one:∀ (a:Nat),bV L a (Bv t++(ql ts++(sT [41]::T)))->∃ t':Tr,∃ ts':List Tr,t'.bare=t.bare/\bH ts'=bH ts/\∀ acc,Ev (fun n=>(gq L n 5 (gs a d)).bind fun r=>dN L n false (acc++[r.1]) r.2) (acc++t'::ts',gs (a+(Bv t).length+(ql ts).length) d):=by
    intro a h;obtain⟨t',hb,hE⟩:=KH wt h (d:=d) (by omega);obtain⟨ts',hbs,hEs⟩:=(Fh (fun y hy=>w y (by simp[hy])) (a:=a+(Bv t).length) (by omega)).1 h.app;refine⟨t',ts',hb,hbs,fun acc=>?_⟩;have:=hE.bind (g:=fun n r=>dN L n false (acc++[r.1]) r.2) (hEs (acc++[t']));simpa using this
   refine⟨fun h=>?_,fun h=>?_⟩
   . have e2:ql (t::ts)++(sT [41]::T)=sT [44]::(Bv t++(ql ts++(sT [41]::T))):=by simp[ql]
     rw[e2] at h;have h1:=(h.hd (d:=d)).2.2.2;obtain⟨t',ts',hb,hbs,hE⟩:=one (a+1) h1;refine⟨t'::ts',by simp[bH,hb,hbs],fun acc=>?_⟩;refine Ev.succ (g:=fun n=>(gq L n 5 (gs (a+1) d)).bind fun r=>dN L n false (acc++[r.1]) r.2) ?_ fun n=>?_
     . rw[show a+(ql (t::ts)).length=a+1+(Bv t).length+(ql ts).length by simp[ql];omega];exact hE acc
     . have h41:dm L [41] (gs a d)=false:=by rw[h.is];decide
       simp only[dN,dI,h41,Bool.or_self,Bool.false_eq_true,if_false,h.must]
   . have e2:wH (t::ts)++(sT [41]::T)=Bv t++(ql ts++(sT [41]::T)):=by simp[wH]
     rw[e2] at h;obtain⟨t',ts',hb,hbs,hE⟩:=one a h;refine⟨t'::ts',by simp[bH,hb,hbs],?_⟩;refine Ev.succ (g:=fun n=>(gq L n 5 (gs a d)).bind fun r=>dN L n false ([]++[r.1]) r.2) ?_ fun n=>?_
     . rw[show a+(wH (t::ts)).length=a+(Bv t).length+(ql ts).length by simp[wH];omega];exact hE []
     . simp only[dN,dI,ael wt h,Bool.or_self,Bool.false_eq_true,if_false,if_true]
theorem ul:∀ (x y:List Tr),bH (x++y)=bH x++bH y
 | [],y=>rfl
 | t::x,y=>by simp[bH,ul x y]
theorem um:∀ (x:List Tr),(bH x).length=x.length
 | []=>rfl
 | t::x=>by simp[bH,um x]
theorem Yu (l c:Int) (x:List UInt8) (ps:List Tr) (r b:Tr):BV (.nd 4 l c ps.length x (ps++[r,b]))=abY ps r b:=by simp[BV]
theorem aeE {l c:Int} {x:List UInt8} {fs:List Tr} (hf:∀ t∈fs,zB 3 t) (h:bV L a (vN x fs++T)) (hd:((Dh fs+1:Nat):Int)+d<=40):∃ t':Tr,t'.bare=(Tr.nd 2 l c 0 x fs).bare/\Ev (fun n=>fH L n (gs a d)) (t',gs (a+(vN x fs).length) d):=by
 have e2:vN x fs++T=wd jO::(2,0,x)::sT [123]::(rW fs++(sT [125]::T)):=by simp[vN]
 rw[e2] at h;have h1:=(h.hd (d:=d)).2.2.2;obtain⟨_,_,g3,h2⟩:=h1.hd (d:=d);have h3:=(h2.hd (d:=d)).2.2.2;obtain⟨fs',hb,hE⟩:=Fg (d:=d+1) hf h3 (by omega);have h4:=h3.app;refine⟨nd 2 (tk L (gs a d)) 0 (tk L (gs (a+1) d)).x fs',by rw[dR,g3,hb];rfl,?_⟩;unfold fH;have hm:bC L jO (gs a d)=gs (a+1) d:=by unfold bC;rw[h.word,if_pos rfl,h.pass (by decide)]
 simp only[hm,h1.wd (show (2:Int)≠8 by decide),h2.opens (show d+1<=40 by omega)];have:=(hE []).map (g:=fun r=>(nd 2 (tk L (gs a d)) 0 (tk L (gs (a+1) d)).x r.1,dw L [125] r.2));simp only[h4.shut,List.nil_append] at this;rw[show a+(vN x fs).length=a+1+1+1+(rW fs).length+1 by simp[vN];omega];exact this
theorem afQ {l c:Int} {x:List UInt8} {ps:List Tr} {r b:Tr} (hp:∀ t∈ps,zB 5 t) (hr:r=.nd 14 0 0 0 [] []\/yK r) (hb:JQ b) (h:bV L a (CS x ps r b++T)) (hd:(abY ps r b:Int)+d<=40):
 ∃ t':Tr,t'.bare=(Tr.nd 4 l c ps.length x (ps++[r,b])).bare/\Ev (fun n=>GL L n (gs a d)) (t',gs (a+(CS x ps r b).length) d):=by
 unfold abY at hd;have e2:CS x ps r b++T=wd vS::(1,0,x)::sT [40]::(wH ps++(sT [41]::((if r.k=14 then [] else sT [58]::nG r)++(qH b++T)))):=by simp[CS]
 rw[e2] at h;have h1:=(h.hd (d:=d)).2.2.2;obtain⟨_,_,g3,h2⟩:=h1.hd (d:=d);have h3:=(h2.hd (d:=d)).2.2.2;obtain⟨ps',hbp,hE⟩:=(Fh (d:=d+1) hp (by omega)).2 h3;have h4:=h3.app;have h5:=(h4.hd (d:=d)).2.2.2;generalize hN:a+1+1+1+(wH ps).length+1=N at h5;have hlen:=congrArg List.length hbp;rw[um,um] at hlen;have key:∃ r':Tr,r'.bare=r.bare/\∃ M,bV L M (qH b++T)/\M=N+(if r.k=14 then [] else sT [58]::nG r:List T3).length/\Ev (fun n=>if dm L [58] (gs N d) then fD L n (bF L (gs N d)) else some (Tr.nd 14 0 0 0 [] [],gs N d)) (r',gs M d):=by
  rcases hr with rfl | hr
  . have h5':bV L N (qH b++T):=h5;refine⟨.nd 14 0 0 0 [] [],rfl,N,h5',rfl,?_⟩;have hno:dm L [58] (gs N d)=false:=by
     cases b with
     | nd k l c n x ks=>
       rw[oV] at h5';have h6:bV L N (sT [123]::(lF ks++[sT [125]]++T)):=by simpa using h5'
       rw[h6.is];decide
    simp only[hno,Bool.false_eq_true,if_false];exact .const _
  . have hk:=aen hr;rw[if_neg (by omega)] at h5⊢;have h5':bV L N (sT [58]::(nG r++(qH b++T))):=by simpa using h5
    have h6:=(h5'.hd (d:=d)).2.2.2;obtain⟨r',hbr,hEr⟩:=xu hr h6 (d:=d) (by omega);refine⟨r',hbr,N+1+(nG r).length,h6.app,by simp;omega,?_⟩;simp only[h5'.yes,if_true,h5'.pass (show (7:Int)≠8 by decide)];exact hEr
 obtain⟨r',hbr,M,h7,hM,hEr⟩:=key;obtain⟨b',hbb,hEb⟩:=Yz hb L M d T h7 (by omega);refine⟨nd 4 (tk L (gs a d)) ps'.length (tk L (gs (a+1) d)).x (ps'++[r',b']),?_,?_⟩
 . rw[dR,g3,ul,hbp,hlen];simp[bH,hbr,hbb,Tr.bare,ul]
 . unfold GL;have hm:bC L vS (gs a d)=gs (a+1) d:=by unfold bC;rw[h.word,if_pos rfl,h.pass (by decide)]
   simp only[hm,h1.wd (show (1:Int)≠8 by decide),h2.opens (show d+1<=40 by omega)];refine hE.bind ?_;simp only[h4.shut,hN];refine hEr.bind ?_;have:=hEb.map (g:=fun b=>(nd 4 (tk L (gs a d)) ps'.length (tk L (gs (a+1) d)).x (ps'++[r',b.1]),b.2));rw[show a+(CS x ps r b).length=M+(qH b).length by rw[hM,<- hN];simp[CS];omega];exact this
theorem aeF {t:Tr} (w:rH t) (h:bV L a (oP t++T)) (hd:(BV t:Int)+d<=40):
 (dm L jO (gs a d)=true/\∃ t':Tr,t'.bare=t.bare/\Ev (fun n=>fH L n (gs a d)) (t',gs (a+(oP t).length) d))\/(dm L jO (gs a d)=false/\dm L vS (gs a d)=true/\∃ t':Tr,t'.bare=t.bare/\Ev (fun n=>GL L n (gs a d)) (t',gs (a+(oP t).length) d)):=by
 cases w with
 | rc l c x hx fs hf=>
   have e1:oP (.nd 2 l c 0 x fs)=vN x fs:=by simp[oP]
   have e2:BV (.nd 2 l c 0 x fs)=Dh fs+1:=by simp[BV]
   rw[e1] at h⊢;rw[e2] at hd;have h':bV L a (wd jO::(2,0,x)::sT [123]::(rW fs++[sT [125]]++T)):=by simpa[vN] using h
   exact .inl ⟨h'.word,aeE hf h hd⟩
 | fn l c x hx ps hp r b hr hb=>
   rw[(Rk l c x ps r b).2] at h⊢;rw[Yu] at hd;have h':bV L a (wd vS::((1,0,x)::sT [40]::(wH ps++(sT [41]::((if r.k=14 then [] else sT [58]::nG r)++qH b))))++T):=by simpa[CS] using h
   exact .inr ⟨by rw[h'.is];decide,h'.word,afQ hp hr hb h hd⟩
theorem SK:∀ {ks:List Tr},(∀ t∈ks,rH t)->∀ {a:Nat},bV L a (jL ks++[(8,0,[])])->(l9 ks:Int)+d<=40->∃ ks':List Tr,bH ks'=bH ks/\∀ acc,Ev (fun n=>eY L n acc (gs a d)) (acc++ks',gs (a+(jL ks).length) d)
 | [],_,a,h,_=>by
   have h':bV L a ((8,0,[])::[]):=h;refine⟨[],rfl,fun acc=>.of 1 fun n hn=>?_⟩;obtain⟨m,rfl⟩:∃ m,n=m+1:=⟨n - 1,by omega⟩;simp only[eY,dI,(h'.hd).1,Bool.false_or,List.append_nil];rfl
 | t::ts,w,a,h,hd=>by
   have hk:l9 (t::ts)=max (BV t) (l9 ts):=rfl;rw[hk] at hd;have e2:jL (t::ts)++[(8,0,[])]=oP t++(jL ts++[(8,0,[])]):=by simp[jL]
   rw[e2] at h;have wt:=w t (by simp);have hlen:a+(jL (t::ts)).length=a+(oP t).length+(jL ts).length:=by simp[jL];omega
   obtain⟨ts',hbs,hEs⟩:=SK (fun y hy=>w y (by simp[hy])) h.app (by omega);have k8:∀ {s:List UInt8},dm L s (gs a d)=true->((tk L (gs a d)).k==8)=false:=fun hs=>by
    rw[beq_eq_false_iff_ne];exact (jV hs).2
   rcases aeF wt h (d:=d) (by omega) with ⟨hr,t',hb,hE⟩ | ⟨hr,hf,t',hb,hE⟩
   . refine⟨t'::ts',by simp[bH,hb,hbs],fun acc=>?_⟩;refine Ev.succ (g:=fun n=>(fH L n (gs a d)).bind fun r=>eY L n (acc++[r.1]) r.2) ?_ fun n=>?_
     . have:=hE.bind (g:=fun n r=>eY L n (acc++[r.1]) r.2) (hEs (acc++[t']));rw[hlen];simpa using this
     . simp only[eY,dI,k8 hr,Bool.or_self,Bool.false_eq_true,if_false,hr,if_true]
   . refine⟨t'::ts',by simp[bH,hb,hbs],fun acc=>?_⟩;refine Ev.succ (g:=fun n=>(GL L n (gs a d)).bind fun r=>eY L n (acc++[r.1]) r.2) ?_ fun n=>?_
     . have:=hE.bind (g:=fun n r=>eY L n (acc++[r.1]) r.2) (hEs (acc++[t']));rw[hlen];simpa using this
     . simp only[eY,dI,k8 hf,Bool.or_self,Bool.false_eq_true,if_false,hr,hf,if_true]
end
section
variable {L:List Tok}
theorem Eu {n m:Nat} {k:Int} {p:PS} {r:Tr×PS} (hm:n<=m) (h:gq L n k p=some r):gq L m k p=some r:=by
 unfold gq at h⊢;simp only[Option.map_eq_some_iff] at h⊢;obtain⟨y,h1,h2⟩:=h;exact⟨y,pV hm h1,h2⟩
theorem QK {n m:Nat} {t:Tok} {p:PS} {r:Tr×PS} (hm:n<=m) (h:ja L n t p=some r):ja L m t p=some r:=by
 unfold ja at h⊢;simp only[Option.bind_eq_some_iff] at h⊢;obtain⟨y,h1,h2⟩:=h;refine⟨y,(TY hm).1 _ _ _ h1,?_⟩;split at h2
 . rename_i c;rw[if_pos c];exact h2
 rename_i c;rw[if_neg c];clear c;split at h2
 . rename_i c;rw[if_pos c];simp only[Option.map_eq_some_iff] at h2⊢;obtain⟨z,h3,h4⟩:=h2;exact⟨z,(TY hm).1 _ _ _ h3,h4⟩
 rename_i c;rw[if_neg c];clear c;exact h2
def afF (L:List Tok) (n m:Nat):Prop:=
 (∀ p r,iw L n p=some r->iw L m p=some r)/\(∀ p r,eX L n p=some r->eX L m p=some r)/\(∀ acc p r,fP L n acc p=some r->fP L m acc p=some r)
theorem ad8:∀ {n m:Nat},n<=m->afF L n m
 | 0,_,_=>⟨fun _ _ h=>(by cases h),fun _ _ h=>(by cases h),fun _ _ _ h=>(by cases h)⟩
 | n+1,0,h=>by omega
 | n+1,m+1,hm=>by
   obtain⟨i1,i2,i3⟩:=ad8 (n:=n) (m:=m) (by omega);have hE:=(TY (L:=L) (n:=n) (m:=m) (by omega)).1;refine⟨fun p r h=>?_,fun p r h=>?_,fun acc p r h=>?_⟩
   . rw[iw] at h⊢;simp only at h⊢;by_cases c:dm L lX p=true
     . rw[if_pos c] at h⊢;simp only[Option.bind_eq_some_iff,Option.map_eq_some_iff] at h⊢;obtain⟨y,h1,z,h2,h3⟩:=h;exact⟨y,pV (by omega) h1,z,hE _ _ _ h2,h3⟩
     rw[if_neg c] at h ⊢;clear c;by_cases c:dm L wM p=true
     . rw[if_pos c] at h⊢;simp only[Option.bind_eq_some_iff] at h⊢;obtain⟨y,h1,z,h2,h3⟩:=h;refine⟨y,hE _ _ _ h1,z,i2 _ _ h2,?_⟩;split at h3
       . rename_i c;rw[if_pos c];simp only[Option.map_eq_some_iff] at h3⊢;obtain⟨u,h4,h5⟩:=h3;exact⟨u,i2 _ _ h4,h5⟩
       . rename_i c;rw[if_neg c];exact h3
     rw[if_neg c] at h ⊢;clear c;by_cases c:dm L fK p=true
     . rw[if_pos c] at h⊢;simp only[Option.bind_eq_some_iff,Option.map_eq_some_iff] at h⊢;obtain⟨y,h1,z,h2,h3⟩:=h;exact⟨y,hE _ _ _ h1,z,i2 _ _ h2,h3⟩
     rw[if_neg c] at h ⊢;clear c;by_cases c:dm L dC p=true
     . rw[if_pos c] at h⊢;split at h
       . rename_i c2;rw[if_pos c2];exact h
       . rename_i c2;rw[if_neg c2];simp only[Option.map_eq_some_iff] at h⊢;obtain⟨y,h1,h2⟩:=h;exact⟨y,hE _ _ _ h1,h2⟩
     rw[if_neg c] at h ⊢;clear c;by_cases c:dm L fQ p=true
     . rw[if_pos c] at h⊢;simp only[Option.map_eq_some_iff] at h⊢;obtain⟨y,h1,h2⟩:=h;exact⟨y,hE _ _ _ h1,h2⟩
     rw[if_neg c] at h⊢;exact QK (by omega) h
   . rw[eX] at h⊢;simp only[Option.map_eq_some_iff] at h⊢;obtain⟨y,h1,h2⟩:=h;exact⟨y,i3 _ _ _ h1,h2⟩
   . rw[fP] at h⊢;split at h
     . rename_i c;rw[if_pos c];exact h
     . rename_i c;rw[if_neg c];simp only[Option.bind_eq_some_iff] at h⊢;obtain⟨y,h1,h2⟩:=h;exact⟨y,i1 _ _ h1,i3 _ _ _ h2⟩
theorem zL:∀ {n m:Nat} {acc:List Tr} {p:PS} {r:List Tr×PS},n<=m->fF L n acc p=some r->fF L m acc p=some r
 | 0,_,_,_,_,_,h=>by cases h
 | n+1,0,_,_,_,hm,_=>by omega
 | n+1,m+1,acc,p,r,hm,h=>by
   rw[fF] at h⊢;split at h
   . rename_i c;rw[if_pos c];exact h
   . rename_i c;rw[if_neg c];simp only[Option.bind_eq_some_iff] at h⊢;obtain⟨y,h1,h2⟩:=h;exact⟨y,Eu (by omega) h1,zL (by omega) h2⟩
theorem zW:∀ {n m:Nat} {f:Bool} {acc:List Tr} {p:PS} {r:List Tr×PS},n<=m->dN L n f acc p=some r->dN L m f acc p=some r
 | 0,_,_,_,_,_,_,h=>by cases h
 | n+1,0,_,_,_,_,hm,_=>by omega
 | n+1,m+1,f,acc,p,r,hm,h=>by
   rw[dN] at h⊢;split at h
   . rename_i c;rw[if_pos c];exact h
   . rename_i c;rw[if_neg c];simp only[Option.bind_eq_some_iff] at h⊢;obtain⟨y,h1,h2⟩:=h;exact⟨y,Eu (by omega) h1,zW (by omega) h2⟩
theorem NL {n m:Nat} {p:PS} {r:Tr×PS} (hm:n<=m) (h:fH L n p=some r):fH L m p=some r:=by
 unfold fH at h⊢;simp only[Option.map_eq_some_iff] at h⊢;obtain⟨y,h1,h2⟩:=h;exact⟨y,zL hm h1,h2⟩
theorem ace {n m:Nat} {p:PS} {r:Tr×PS} (hm:n<=m) (h:GL L n p=some r):GL L m p=some r:=by
 unfold GL at h⊢;simp only[Option.bind_eq_some_iff,Option.map_eq_some_iff] at h⊢;obtain⟨y,h1,z,h2,u,h3,h4⟩:=h;refine⟨y,zW hm h1,z,?_,u,(ad8 hm).2.1 _ _ h3,h4⟩;split at h2
 . rename_i c;rw[if_pos c];exact pV hm h2
 . rename_i c;rw[if_neg c];exact h2
theorem qV:∀ {n m:Nat} {acc:List Tr} {p:PS} {r:List Tr×PS},n<=m->eY L n acc p=some r->eY L m acc p=some r
 | 0,_,_,_,_,_,h=>by cases h
 | n+1,0,_,_,_,hm,_=>by omega
 | n+1,m+1,acc,p,r,hm,h=>by
   rw[eY] at h⊢;split at h
   . rename_i c;rw[if_pos c];exact h
   rename_i c;rw[if_neg c];clear c;split at h
   . rename_i c;rw[if_pos c];simp only[Option.bind_eq_some_iff] at h⊢;obtain⟨y,h1,h2⟩:=h;exact⟨y,NL (by omega) h1,qV (by omega) h2⟩
   rename_i c;rw[if_neg c];clear c;split at h
   . rename_i c;rw[if_pos c];simp only[Option.bind_eq_some_iff] at h⊢;obtain⟨y,h1,h2⟩:=h;exact⟨y,ace (by omega) h1,qV (by omega) h2⟩
   rename_i c;rw[if_neg c];exact qV (by omega) h
end
mutual
theorem Ob:∀ (t:Tr) (i:Nat),stx i t.bare=stx i t/\uu i t.bare=uu i t
 | .nd k l c n x ks,i=>by
   have ih:=Hm ks;refine⟨?_,?_⟩
   . rw[Tr.bare]
     match ks,ih with
     | [],_=>rw[bH,stx.eq_def,stx.eq_def]
     | [a],_=>rw[bH,bH,stx.eq_def,stx.eq_def];simp only[uU]
     | a::b::cs,ih=>
       have hb:=(ih b (by simp) i).2;rw[bH,bH,stx.eq_def,stx.eq_def];have he:etx i (bH cs)=etx i cs:=by
        match cs,ih with
        | [],_=>rfl
        | e::_,ih=>rw[bH,etx,etx,(ih e (by simp) i).2]
       simp only[uU,pW,hb,he]
   . rw[Tr.bare,uu,uu];have hs:∀ ks':List Tr,(∀ t∈ks',t∈ks)->pz (i+1) (bH ks')=pz (i+1) ks':=by
      intro ks'
      induction ks' with
      | nil=>intro _;rfl
      | cons t ts iht=>
        intro h;rw[bH,uO,uO,(ih t (h t (by simp)) (i+1)).1,iht fun u hu=>h u (List.mem_cons_of_mem _ hu)]
     rw[hs ks fun _ h=>h]
theorem Hm:∀ (ts:List Tr),∀ t∈ts,∀ i,stx i t.bare=stx i t/\uu i t.bare=uu i t
 | [],t,h,_=>by simp at h
 | a::ts,t,h,i=>by
   rcases List.mem_cons.1 h with e | h
   . rw[e];exact Ob a i
   . exact Hm ts t h i
end
theorem Es (t:Tr):OH t.bare=OH t:=by
 obtain⟨k,l,c,n,x,ks⟩:=t;cases ks with
 | nil=>rfl
 | cons a ks=>simp[OH,Tr.bare,bH,pW]
theorem F8:∀ ts:List Tr,oZ (bH ts)=oZ ts
 | []=>rfl
 | t::ts=>by rw[bH,oZ,oZ,Es,F8 ts]
theorem GX:∀ ts:List Tr,qo (bH ts)=qo ts
 | []=>rfl
 | t::ts=>by rw[bH,qo,qo,Es,GX ts]
theorem WZ:∀ ts:List Tr,qm (bH ts)=qm ts
 | []=>rfl
 | t::ts=>by rw[bH,qm,qm,Es,GX ts]
theorem pF:∀ ts:List Tr,bH ts=ts.map Tr.bare
 | []=>rfl
 | t::ts=>by rw[bH,pF ts];rfl
theorem Rl (t:Tr):kZ t.bare=kZ t:=by
 obtain⟨k,l,c,n,x,ks⟩:=t;rw[Tr.bare,kZ,kZ];by_cases h2:k=2
 . rw[if_pos h2,if_pos h2];unfold zX;rw[F8]
 . rw[if_neg h2,if_neg h2,pF,<- List.map_drop,<- List.map_take];generalize ks.drop n.toNat=q
   match q with
   | []=>rfl
   | [_]=>rfl
   | r::b::_=>
     simp only[List.map_cons];unfold EL;rw[<- pF,WZ,pW,(Ob b 0).2];have:r.bare.k=r.k:=by cases r;rfl
     rw[this]
theorem uf:∀ ts:List Tr,fA (bH ts)=fA ts
 | []=>rfl
 | t::ts=>by rw[bH,fA,fA,Rl,uf ts]
theorem jM (k l c n:Int) (x:List UInt8) (ks:List Tr):wN (.nd k l c n x ks)=23+4*x.length+wS ks:=rfl
theorem Ot {t:Tr} (W:yK t):wN t<=4000023*t.n:=by
 induction W with
 | word k l c h=>rw[jM,iC,wS,aQ];simp
 | big l c x h=>rw[jM,iC,wS,aQ];have:=h.2.2;omega
 | list l c t h ih=>rw[jM,iC,wS,wS,ay,aQ];simp;omega
mutual
theorem lY:∀ {t:Tr},jC t->wN t<=4000023*t.n
 | _,.int l c n h=>by rw[jM,iC,wS,aQ];simp
 | _,.comp l c n h=>by rw[jM,iC,wS,aQ];simp
 | _,.str l c x h=>by rw[jM,iC,wS,aQ];omega
 | _,.bool l c n h=>by rw[jM,iC,wS,aQ];simp
 | _,.nil l c=>by rw[jM,iC,wS,aQ];simp
 | _,.name l c x h=>by rw[jM,iC,wS,aQ];have:=h.2.2.2;omega
 | _,.call l c x h ks hk=>by have:=abB hk;have:=h.2.2.2;rw[jM,iC];omega
 | _,.index l c a b ha hb=>by have:=lY ha;have:=lY hb;rw[jM,iC,wS,wS,wS,ay,ay,aQ];simp;omega
 | _,.dot l c x h a ha=>by have:=lY ha;have:=h.2.2.2;rw[jM,iC,wS,wS,ay,aQ];omega
 | _,.un l c n h a ha=>by have:=lY ha;rw[jM,iC,wS,wS,ay,aQ];simp;omega
 | _,.bin l c n h a b ha hb=>by have:=lY ha;have:=lY hb;rw[jM,iC,wS,wS,wS,ay,ay,aQ];simp;omega
 | _,.make l c l' c' x h=>by have:=Ot (.big l' c' x h);rw[jM,iC,wS,wS,ay,aQ];simp;omega
 | _,.makes l c l' c' t ht b hb=>by have:=Ot (.list l' c' t ht);have:=lY hb;rw[jM,iC,wS,wS,wS,ay,ay,aQ];simp;omega
theorem abB:∀ {ts:List Tr},sG ts->wS ts<=4000023*Tr.ns ts
 | _,.nil=>by rw[wS,aQ];omega
 | _,.cons _ _ h hs=>by have:=lY h;have:=abB hs;rw[wS,ay];omega
end
mutual
theorem adK:∀ {t:Tr},JR t->∀ i:Nat,i+t.n<=10000->(stx i t).length+i+1<=5000000*t.n
 | _,.var l c x h a b ha hb,i,hi=>by
   have h1:=Bc ha;have h2:=Ot ha;have h3:=ry hb;have h4:=lY hb;have h5:=h.2.2.2;rw[iC,ay,ay,aQ] at hi⊢;rw[OC];simp only[List.length_append,List.length_cons,List.length_nil];omega
 | _,.set l c a b ha hk hb,i,hi=>by
   have h1:=ry ha;have h2:=lY ha;have h3:=ry hb;have h4:=lY hb;rw[iC,ay,ay,aQ] at hi⊢;rw[OB];simp only[List.length_append,List.length_cons,List.length_nil];omega
 | _,.if1 l c a b ha hb,i,hi=>by
   rw[iC,ay,ay,aQ] at hi⊢;have h1:=ry ha;have h2:=lY ha;have h3:=yD hb i (by omega);rw[Oz];simp only[List.length_append,List.length_cons,List.length_nil];omega
 | _,.if2 l c a b e ha hb he,i,hi=>by
   rw[iC,ay,ay,ay,aQ] at hi⊢;have h1:=ry ha;have h2:=lY ha;have h3:=yD hb i (by omega);have h4:=yD he i (by omega);rw[OA];simp only[List.length_append,List.length_cons,List.length_nil];omega
 | _,.while_ l c a b ha hb,i,hi=>by
   rw[iC,ay,ay,aQ] at hi⊢;have h1:=ry ha;have h2:=lY ha;have h3:=yD hb i (by omega);rw[EH];simp only[List.length_append,List.length_cons,List.length_nil];omega
 | _,.ret0 l c,i,hi=>by
   rw[iC,aQ] at hi⊢;rw[zx];simp only[List.length_append,List.length_cons,List.length_nil];omega
 | _,.ret1 l c a ha,i,hi=>by
   have h1:=ry ha;have h2:=lY ha;rw[iC,ay,aQ] at hi⊢;rw[zy];simp only[List.length_append,List.length_cons,List.length_nil];omega
 | _,.print l c a ha,i,hi=>by
   have h1:=ry ha;have h2:=lY ha;rw[iC,ay,aQ] at hi⊢;rw[EG];simp only[List.length_append,List.length_cons,List.length_nil];omega
 | _,.do_ l c a ha hk,i,hi=>by
   have h1:=ry ha;have h2:=lY ha;rw[iC,ay,aQ] at hi⊢;rw[U3];simp only[List.length_append,List.length_cons,List.length_nil];omega
theorem yD:∀ {t:Tr},JQ t->∀ i:Nat,i+t.n<=10000->(uu i t).length<=5000000*t.n
 | _,.blk l c ks h,i,hi=>by
   rw[iC] at hi⊢;have h1:=Ou h (i+1) (by omega);rw[U0];simp only[List.length_append,List.length_cons,List.length_nil,jS];omega
theorem Ou:∀ {ts:List Tr},qC ts->∀ i:Nat,i+Tr.ns ts<=10000->(pz i ts).length<=5000000*Tr.ns ts
 | _,.nil,i,_=>by rw[pz,aQ];simp
 | _,.cons _ _ h hs,i,hi=>by
   rw[ay] at hi⊢;have h1:=adK h i (by omega);have h2:=Ou hs i (by omega);rw[uO];simp only[List.length_append,jS];omega
end
theorem adD {k:Int} {t:Tr} (W:zB k t):(OH t).length<=4100000*t.n:=by
 cases W with
 | mk l c x h a ha=>
 have h1:=Bc ha;have h2:=Ot ha;have h3:=h.2.2.2;rw[iC,ay,aQ];simp only[OH,List.length_append,List.length_cons];omega
theorem CV {k:Int}:∀ {ts:List Tr},(∀ t∈ts,zB k t)->(oZ ts).length<=4200000*Tr.ns ts/\(qo ts).length<=4200000*Tr.ns ts/\(qm ts).length<=4200000*Tr.ns ts
 | [],_=>by simp[oZ,qo,qm]
 | t::ts,h=>by
   have h1:=adD (h t (by simp));obtain⟨h2,h3,_⟩:=CV (fun u hu=>h u (List.mem_cons_of_mem _ hu));have h4:1<=t.n:=by rw[mQ];omega
   rw[ay];simp only[oZ,qo,qm,List.length_append,List.length_cons];omega
theorem Xu {t:Tr} (W:rH t) (hn:t.n<=9000):(kZ t).length<=6000000*t.n:=by
 cases W with
 | rc l c x h fs hf=>
   have h1:=(CV hf).1;have h2:=h.2.2;rw[U5,NM];rw[iC];simp only[List.length_append,List.length_cons,List.length_nil];omega
 | fn l c x h ps hp r b hr hb=>
   have h1:=(CV hp).2.2;have h2:=h.2.2.2;rw[iC,iZ,ay,ay,aQ] at hn⊢;have h3:=yD hb 0 (by omega);have h4:(if r.k=14 then [] else [58,32]++kK r:List UInt8).length<=5000000*r.n:=by
    rcases hr with rfl | hr
    . simp[Tr.k]
    . have:=Bc hr;have:=Ot hr;split
      . simp
      . simp only[List.length_append,List.length_cons,List.length_nil];omega
   rw[U4,Oy];simp only[List.length_append,List.length_cons,List.length_nil];omega
theorem Ep:∀ {ts:List Tr},(∀ t∈ts,rH t)->Tr.ns ts<=9000->(fA ts).length<=7000000*Tr.ns ts
 | [],_,_=>by simp[fA]
 | t::ts,h,hn=>by
   rw[ay] at hn⊢;have h1:=Xu (h t (by simp)) (by omega);have h2:=Ep (fun u hu=>h u (List.mem_cons_of_mem _ hu)) (by omega);have h4:1<=t.n:=by rw[mQ];omega
   simp only[fA,List.length_append,List.length_cons];omega
def up (K:Int) (p:PS):PS:=⟨p.a,p.d+K,p.f⟩
section
variable {L:List Tok} {K:Int}
theorem abx (p:PS):tk L (up K p)=tk L p:=rfl
theorem Rn (p:PS):(up K p).bad=p.bad:=rfl
theorem aem (s:List UInt8) (p:PS):dm L s (up K p)=dm L s p:=rfl
theorem BB (e:Int) (p:PS):dD L e (up K p)=up K (dD L e p):=by
 unfold dD;rw[Rn];split<;>rfl
theorem oQ (p:PS):bF L (up K p)=up K (bF L p):=by
 unfold bF;rw[abx];split<;>rfl
theorem yB (s:List UInt8) (p:PS):bC L s (up K p)=up K (bC L s p):=by
 unfold bC;rw[aem,oQ,BB];split<;>rfl
theorem adH (k:Int) (p:PS):gK L k (up K p)=up K (gK L k p):=by
 unfold gK;rw[Rn,abx,oQ,BB];split<;>rfl
theorem adG (p:PS):jo L (up K p)=up K (jo L p):=by
 unfold jo;rw[oQ,abx,aem,BB];split<;>rfl
theorem UT (s:List UInt8) (p:PS):dw L s (up K p)=up K (dw L s p):=by
 unfold dw;rw[yB];show PS.mk _ ((bC L s p).d+K - 1) _=PS.mk _ ((bC L s p).d - 1+K) _;rw[show (bC L s p).d+K - 1=(bC L s p).d - 1+K by omega];rfl
theorem OX {p:PS} (h:p.f.1=6):p.bad=true:=by unfold PS.bad;rw[h];rfl
structure UM (K:Int) (g:PS->PS):Prop where
 st:∀ p,p.bad=true->(g p).f=p.f
 cp:∀ p,(g p).bad=false->g (up K p)=up K (g p)\/(g (up K p)).f.1=6
structure UG (K:Int) {α:Type} (F:PS->Option (α×PS)):Prop where
 st:∀ p t q,F p=some (t,q)->p.bad=true->q.f=p.f
 cp:∀ p t q r,F p=some (t,q)->q.bad=false->F (up K p)=some r->r=(t,up K q)\/r.2.f.1=6
theorem UM.of {g:PS->PS} {e:Int} (hA:∀ p,gZ L p (g p) e) (h:∀ p,g (up K p)=up K (g p)):UM K g:=⟨fun p=>(hA p).b,fun p _=>.inl (h p)⟩
theorem UM.id:UM K fun p=>p:=⟨fun _ _=>rfl,fun _ _=>.inl rfl⟩
theorem UM.stay {g:PS->PS} (hg:UM K g) {p:PS} (h:(g p).bad=false):p.bad=false:=by
 cases hb:p.bad with
 | false=>rfl
 | true=>rw[vk (hg.st p hb),hb] at h;cases h
theorem UM.comp {g h:PS->PS} (hg:UM K g) (hh:UM K h):UM K fun p=>h (g p):=⟨fun p hb=>by
 have h1:=hg.st p hb;rw[hh.st _ (by rw[vk h1];exact hb),h1],fun p hb=>by
 rcases hg.cp p (hh.stay hb) with e | e
 . rw[e];exact hh.cp _ hb
 . exact .inr (by rw[hh.st _ (OX e)];exact e)⟩
theorem Bf (e:Int):UM K (dD L e):=.of (dP e) (BB e)
theorem TZ:UM K fun p=>{ p with d:=p.d - 1 }:=⟨fun _ _=>rfl,fun p _=>.inl (by
 show PS.mk p.a (p.d+K - 1) p.f=PS.mk p.a (p.d - 1+K) p.f;rw[show p.d+K - 1=p.d - 1+K by omega])⟩
theorem kR (H:LW L) (s:List UInt8):UM K (dE L s):=by
 refine⟨fun p=>(bG H s p).b,fun p hb=>?_⟩;by_cases h6:(dm L s (up K p)&&(up K p).d==40)=true
 . right;have hnb:p.bad=false:=by
    rw[Bool.and_eq_true] at h6;have:=h6.1;unfold dm at this;simp only[Bool.and_eq_true,Bool.not_eq_true'] at this;exact this.1.1
   have e:dE L s (up K p)={ bC L s (dD L 6 (up K p)) with d:=(bC L s (dD L 6 (up K p))).d+1 }:=by
    unfold dE;rw[if_pos h6]
   have f6:(dD L 6 (up K p)).f.1=6:=by
    unfold dD;rw[if_neg (by rw[Rn,hnb];decide)]
   rw[e];show (bC L s (dD L 6 (up K p))).f.1=6;rw[(aV H s _).b (OX f6)];exact f6
 . by_cases h5:(dm L s p&&p.d==40)=true
   . exfalso;have f6:(dD L 6 p).f.1=6:=by
      have hnb:p.bad=false:=by
       rw[Bool.and_eq_true] at h5;have:=h5.1;unfold dm at this;simp only[Bool.and_eq_true,Bool.not_eq_true'] at this;exact this.1.1
      unfold dD;rw[if_neg (by rw[hnb];decide)]
     have:(dE L s p).f.1=6:=by
      unfold dE;rw[if_pos h5];show (bC L s (dD L 6 p)).f.1=6;rw[(aV H s _).b (OX f6)];exact f6
     rw[OX this] at hb;cases hb
   . left;have e1:dE L s (up K p)={ bC L s (up K p) with d:=(bC L s (up K p)).d+1 }:=by
      unfold dE;rw[if_neg h6]
     have e2:dE L s p={ bC L s p with d:=(bC L s p).d+1 }:=by
      unfold dE;rw[if_neg h5]
     rw[e1,e2,yB];show PS.mk _ ((bC L s p).d+K+1) _=PS.mk _ ((bC L s p).d+1+K) _;rw[show (bC L s p).d+K+1=(bC L s p).d+1+K by omega];rfl
variable {α β:Type}
theorem UG.stay {F:PS->Option (α×PS)} (hF:UG K F) {p q:PS} {t:α} (h:F p=some (t,q)) (hq:q.bad=false):p.bad=false:=by
 cases hb:p.bad with
 | false=>rfl
 | true=>rw[vk (hF.st p t q h hb),hb] at hq;cases hq
theorem UG.none {F:PS->Option (α×PS)} (h:∀ p,F p=Option.none):UG K F:=⟨fun p t q e=>(by rw[h] at e;cases e),fun p t q r e=>(by rw[h] at e;cases e)⟩
theorem UG.ret {u:PS->α} {g:PS->PS} (hg:UM K g) (hu:∀ p,u (up K p)=u p):UG K fun p=>some (u p,g p):=by
 refine⟨fun p t q h hb=>?_,fun p t q r h hq h'=>?_⟩
 . cases h;exact hg.st p hb
 . cases h;cases h';rcases hg.cp p hq with e | e
   . left;rw[hu,e]
   . exact .inr e
theorem UG.pre {γ:Type} {F:γ->PS->Option (α×PS)} {a:PS->γ} {g:PS->PS} (hg:UM K g) (ha:∀ p,a (up K p)=a p) (hF:∀ c,UG K (F c)):UG K fun p=>F (a p) (g p):=by
 refine⟨fun p t q h hb=>?_,fun p t q r h hq h'=>?_⟩
 . have h1:=hg.st p hb;rw[(hF _).st _ _ _ h (by rw[vk h1];exact hb),h1]
 . rw[ha] at h';rcases hg.cp p ((hF _).stay h hq) with e | e
   . rw[e] at h';exact (hF _).cp _ _ _ _ h hq h'
   . right;rw[(hF _).st _ _ _ (show _=some (r.1,r.2) from h') (OX e)];exact e
theorem UG.bind {F:PS->Option (α×PS)} {G:PS->α×PS->Option (β×PS)} (hF:UG K F) (hc:∀ p,G (up K p)=G p) (hG:∀ p t,UG K fun q=>G p (t,q)):UG K fun p=>(F p).bind (G p):=by
 refine⟨fun p t q h hb=>?_,fun p t q r h hq h'=>?_⟩
 . simp only[Option.bind_eq_some_iff] at h;obtain⟨⟨y,u⟩,h1,h2⟩:=h;have e1:=hF.st _ _ _ h1 hb;rw[(hG p y).st u t q h2 (by rw[vk e1];exact hb),e1]
 . simp only[Option.bind_eq_some_iff] at h h';obtain⟨⟨y,u⟩,h1,h2⟩:=h;obtain⟨⟨y',u'⟩,h1',h2'⟩:=h';rw[hc] at h2';have hu:=(hG p y).stay h2 hq;rcases hF.cp _ _ _ _ h1 hu h1' with e | e
   . cases e;exact (hG p y).cp u t q r h2 hq h2'
   . right;rw[(hG p y').st u' r.1 r.2 h2' (OX e)];exact e
theorem UG.map {F:PS->Option (α×PS)} {M:PS->α×PS->β×PS} (hF:UG K F) (hc:∀ p,M (up K p)=M p) (hM:∀ p t,UG K fun q=>some (M p (t,q))):UG K fun p=>(F p).map (M p):=by
 have:=UG.bind (G:=fun p r=>some (M p r)) hF (fun p=>by rw[hc]) hM;have e:(fun p=>(F p).bind fun r=>some (M p r))=fun p=>(F p).map (M p):=by
  funext p;cases F p<;>rfl
 rwa [e] at this
theorem UG.ite {c:PS->Prop} [∀ p,Decidable (c p)] {F G:PS->Option (α×PS)} (hc:∀ p,c (up K p)↔c p) (hF:UG K F) (hG:UG K G):UG K fun p=>if c p then F p else G p:=by
 refine⟨fun p t q h hb=>?_,fun p t q r h hq h'=>?_⟩
 . split at h
   . exact hF.st _ _ _ h hb
   . exact hG.st _ _ _ h hb
 . by_cases h0:c p
   . rw[if_pos h0] at h;rw[if_pos ((hc p).2 h0)] at h';exact hF.cp _ _ _ _ h hq h'
   . rw[if_neg h0] at h;rw[if_neg (fun e=>h0 ((hc p).1 e))] at h';exact hG.cp _ _ _ _ h hq h'
theorem UG.to {F:PS->Option (α×PS)} {g:PS->PS} (hg:UM K g) (hF:UG K F):UG K fun p=>F (g p):=UG.pre (γ:=Unit) (F:=fun _=>F) (a:=fun _=>()) hg (fun _=>rfl) fun _=>hF
variable (H:LW L)
include H
theorem xN:UM K (bF L):=.of (aN H) oQ
theorem iY (s:List UInt8):UM K (bC L s):=.of (aV H s) (yB s)
theorem xO (k:Int):UM K (gK L k):=.of (dF H k) (adH k)
theorem lN (s:List UInt8):UM K (dw L s):=.of (dB H s) (UT s)
theorem acA:UM K (jo L):=by
 refine⟨fun p hb=>?_,fun p _=>.inl (adG p)⟩;have h1:=(aN H p).b hb;unfold jo;split
 . rw[(dP 5 _).b (by rw[vk h1];exact hb),h1]
 . exact h1
theorem sV:∀ n,UG K (fD L n)
 | 0=>UG.none fun _=>rfl
 | n+1=>by
   have e:fD L (n+1)=fun p=>_:=funext fun p=>by rw[fD]
   rw[e];have P:=xN (K:=K) H;refine UG.ite (fun _=>Iff.rfl) (UG.ret UM.id fun _=>rfl) ?_;refine UG.ite (fun _=>Iff.rfl) (UG.ret P fun _=>rfl) ?_;refine UG.ite (fun _=>Iff.rfl) (UG.ret P fun _=>rfl) ?_;refine UG.ite (fun _=>Iff.rfl) (UG.ret P fun _=>rfl) ?_;refine UG.ite (fun _=>Iff.rfl) (UG.ret P fun _=>rfl) ?_;refine UG.ite (fun _=>Iff.rfl) (UG.ret P fun _=>rfl) ?_;refine UG.ite (fun _=>Iff.rfl) ?_ (UG.ret (Bf 5) fun _=>rfl);exact UG.map (UG.to (kR H [91]) (sV n)) (fun _=>rfl) fun p t=>UG.ret (lN H [93]) fun _=>rfl
end
end Go.Proofs.YtllbpdllkkcajaaGreatDoor
