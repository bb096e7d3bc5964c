/- hindcastlaw07: texts joined: TreC, TreD, TreU, PreB, PreC, PreD, PreE, PreF, PreG, PreH, PreI, PreJ, PreK, PreL, PreM, TreZB, TreZC, TreZD, TreZE, TreV. -/
import Derived.Test.YtllbpdllkkcajaaGreatDoorPqh
namespace Go.Proofs.YtllbpdllkkcajaaGreatDoor
open Go.RowKit
attribute [local go_sem] bI bH aj ah ag aS ax aQ ak says_again BE.den IE.den SE.den LE.den AE.den CE.den PE.den VE.den KV.val dO.den dO.cnt jO fD jX allL Ctx.push Ctx.heap Ctx.cut Ctx.bare Ctx.mark Inc.blank List.getD_cons_zero List.getD_cons_succ List.cons_append List.nil_append List.append_nil List.map_cons List.map_nil List.replicate_zero List.replicate_succ az dm bY dh cO dK dJ bC bz bD bW bV aH aX aI aG au aP aO dH af and_assoc
def JI:Fm:=(.ite (.eqI (.x 0) (.c 7))
 (.mk [(.c (.fn 88)),(.c (.fn 92))] 81 2
 (.C 87 [(.agg [.U 0,.J 1,.J 2,.J 3,.J 4,(.s (.x 0)),(.sl (.x 0))]),.L 1] (.p (.B 0)) ⟨0,1,0,0,0,0⟩
 (.ret (.p (.B 0)))))
 (.ite (.eqI (.x 0) (.c 8))
 (.mk [(.i .u8 (.c 26)),(.i .u8 (.c 28)),(.i .u8 (.c 29))] 5 3
 (.C 52 [.L 1] (.p (.one (.v 0))) ⟨0,0,0,1,0,0⟩
 (.mk [(.v 0),(.c (.fn 92))] 81 2
 (.C 87 [(.agg [.U 0,.J 1,.J 2,.J 3,.J 4,(.s (.x 0)),(.sl (.x 0))]),.L 2] (.p (.B 0)) ⟨0,1,0,0,0,0⟩
 (.ret (.p (.B 0)))))))
 (.ite (.eqI (.x 0) (.c 9))
 (.mk [(.c (.fn 92)),(.c (.fn 132))] 81 2
 (.C 87 [(.agg [.U 0,.J 1,.J 2,.J 3,.J 4,(.s (.x 0)),(.sl (.x 0))]),.L 1] (.p (.B 0)) ⟨0,1,0,0,0,0⟩
 (.ite (.x 0)
 (.ret (.p (.one (.b (.c true)))))
 (.mk [(.c (.fn 92)),(.c (.fn 132)),(.c (.fn 132))] 81 3
 (.C 87 [(.agg [.U 0,.J 1,.J 2,.J 3,.J 4,(.s (.x 0)),(.sl (.x 0))]),.L 2] (.p (.B 1)) ⟨0,1,0,0,0,0⟩
 (.ret (.p (.B 1))))))))
 (.ite (.eqI (.x 0) (.c 10))
 (.mk [(.c (.fn 92)),(.c (.fn 132))] 81 2
 (.C 87 [(.agg [.U 0,.J 1,.J 2,.J 3,.J 4,(.s (.x 0)),(.sl (.x 0))]),.L 1] (.p (.B 0)) ⟨0,1,0,0,0,0⟩
 (.ret (.p (.B 0)))))
 (.ite (.eqI (.x 0) (.c 11))
 (.C 87 [(.agg [.U 0,.J 1,.J 2,.J 3,.J 4,(.s (.x 0)),(.sl (.x 0))]),(.one (.sl .nil))] (.p (.B 0)) ⟨0,1,0,0,0,0⟩
 (.ite (.x 0)
 (.ret (.p (.one (.b (.c true)))))
 (.mk [(.c (.fn 92))] 81 1
 (.C 87 [(.agg [.U 0,.J 1,.J 2,.J 3,.J 4,(.s (.x 0)),(.sl (.x 0))]),.L 1] (.p (.B 1)) ⟨0,1,0,0,0,0⟩
 (.ret (.p (.B 1)))))))
 (.ite (.eqI (.x 0) (.c 12))
 (.mk [(.c (.fn 92))] 81 1
 (.C 87 [(.agg [.U 0,.J 1,.J 2,.J 3,.J 4,(.s (.x 0)),(.sl (.x 0))]),.L 1] (.p (.B 0)) ⟨0,1,0,0,0,0⟩
 (.ret (.p (.B 0)))))
 (.mk [(.i .u8 (.c 27))] 5 1
 (.C 52 [.L 1] (.p (.one (.v 0))) ⟨0,0,0,1,0,0⟩
 (.mk [(.v 0)] 81 1
 (.C 87 [(.agg [.U 0,.J 1,.J 2,.J 3,.J 4,(.s (.x 0)),(.sl (.x 0))]),.L 2] (.p (.B 0)) ⟨0,1,0,0,0,0⟩
 (.ret (.p (.B 0)))))))))))))
theorem SY:bG ⟨true,[]⟩ Tryz.prog (fun l=>([]:List bZ).getD l ⟨[],[],[]⟩) Tryz.f91=JI:=by kernel_rfl
theorem XH:aF Tryz.prog .zero Tryz.f91.params.toList=some ([(.agg [.U 0,.J 1,.J 2,.J 3,.J 4,(.s (.x 0)),(.sl (.x 0))])],⟨5,0,1,0,1,0⟩):=by kernel_rfl
def QE:Fm:=(.need (.not (.lt (.cnt (.x 0)) (.c 2))) (.R (.sub (.cnt (.x 0)) (.c 2)))
 (.need (.not (.or (.lt (.cnt (.x 0)) (.c 2)) (.not (.eqI (.sub (.cnt (.x 0)) (.c 2)) (.x 4))))) (.R (.sub (.cnt (.x 0)) (.c 1)))
 (.need (.not (.or (.lt (.cnt (.x 0)) (.c 2)) (.not (.eqI (.sub (.cnt (.x 0)) (.c 2)) (.x 4))))) (.X (.sub (.cnt (.x 0)) (.c 1)) (.x 0))
 (.load (.not (.or (.lt (.cnt (.x 0)) (.c 2)) (.not (.eqI (.sub (.cnt (.x 0)) (.c 2)) (.x 4))))) (.el (.x 0) (.sub (.cnt (.x 0)) (.c 1)) 6 0) 6 [.U 5,.J 6,.J 7,.J 8,.J 9,(.s (.x 1))] ⟨5,0,1,0,0,0⟩
 (.call (.not (.or (.lt (.cnt (.x 0)) (.c 2)) (.not (.eqI (.sub (.cnt (.x 0)) (.c 2)) (.x 4))))) false 132 [(.agg [.U 5,.J 6,.J 7,.J 8,.J 9,(.s (.x 1))])] (.p (.B 0)) ⟨0,1,0,0,0,0⟩
 (.need (.not (.or (.or (.lt (.cnt (.x 0)) (.c 2)) (.not (.eqI (.sub (.cnt (.x 0)) (.c 2)) (.x 4)))) (.not (.x 0)))) (.R (.sub (.cnt (.x 0)) (.c 2)))
 (.need (.not (.or (.or (.lt (.cnt (.x 0)) (.c 2)) (.not (.eqI (.sub (.cnt (.x 0)) (.c 2)) (.x 4)))) (.not (.x 0)))) (.X (.sub (.cnt (.x 0)) (.c 2)) (.x 0))
 (.need (.not (.or (.or (.lt (.cnt (.x 0)) (.c 2)) (.not (.eqI (.sub (.cnt (.x 0)) (.c 2)) (.x 4)))) (.not (.x 0)))) (.nns (.x 0))
 (.load (.not (.or (.or (.lt (.cnt (.x 0)) (.c 2)) (.not (.eqI (.sub (.cnt (.x 0)) (.c 2)) (.x 4)))) (.not (.x 0)))) (.el (.x 0) (.sub (.cnt (.x 0)) (.c 2)) 6 0) 1 [.U 10] ⟨1,0,0,0,0,0⟩
 (.need (.and (.not (.or (.or (.lt (.cnt (.x 0)) (.c 2)) (.not (.eqI (.sub (.cnt (.x 0)) (.c 2)) (.x 4)))) (.not (.x 0)))) (.not (.eqI (.x 10) (.c 14)))) (.R (.sub (.cnt (.x 0)) (.c 2)))
 (.need (.and (.not (.or (.or (.lt (.cnt (.x 0)) (.c 2)) (.not (.eqI (.sub (.cnt (.x 0)) (.c 2)) (.x 4)))) (.not (.x 0)))) (.not (.eqI (.x 10) (.c 14)))) (.X (.sub (.cnt (.x 0)) (.c 2)) (.x 0))
 (.load (.and (.not (.or (.or (.lt (.cnt (.x 0)) (.c 2)) (.not (.eqI (.sub (.cnt (.x 0)) (.c 2)) (.x 4)))) (.not (.x 0)))) (.not (.eqI (.x 10) (.c 14)))) (.el (.x 0) (.sub (.cnt (.x 0)) (.c 2)) 6 0) 6 [.U 11,.J 12,.J 13,.J 14,.J 15,(.s (.x 2))] ⟨5,0,1,0,0,0⟩
 (.call (.and (.not (.or (.or (.lt (.cnt (.x 0)) (.c 2)) (.not (.eqI (.sub (.cnt (.x 0)) (.c 2)) (.x 4)))) (.not (.x 0)))) (.not (.eqI (.x 10) (.c 14)))) false 88 [(.agg [.U 11,.J 12,.J 13,.J 14,.J 15,(.s (.x 2))])] (.p (.B 1)) ⟨0,1,0,0,0,0⟩
 (.ite (.or (.or (.or (.lt (.cnt (.x 0)) (.c 2)) (.not (.eqI (.sub (.cnt (.x 0)) (.c 2)) (.x 4)))) (.not (.x 0))) (.and (.not (.eqI (.x 10) (.c 14))) (.not (.x 1))))
 (.ret (.p (.one (.b (.c false)))))
 (.N (.R (.sub (.cnt (.x 0)) (.c 2)))
 (.N (.and (.and (.le (.c 0) (.sub (.cnt (.x 0)) (.c 2))) (.le (.sub (.cnt (.x 0)) (.c 2)) (.cap (.x 0)))) (.and (.le (.c 0) (.c 0)) (.le (.c 0) (.sub (.cnt (.x 0)) (.c 2)))))
 (.mk [(.i .u8 (.c 5))] 5 1
 (.C 52 [.L 1] (.p (.one (.v 0))) ⟨0,0,0,1,0,0⟩
 (.C 51 [(.agg [.U 0,.J 1,.J 2,.J 3,.J 4,(.s (.x 0)),(.sl (.sub (.x 0) (.c 0) (.sub (.cnt (.x 0)) (.c 2)) 6))]),(.one (.v 0))] (.p (.B 2)) ⟨0,1,0,0,0,0⟩
 (.ret (.p (.B 2))))))))))))))))))))))
theorem WA:bG ⟨true,[]⟩ Tryz.prog (fun l=>([]:List bZ).getD l ⟨[],[],[]⟩) Tryz.f89=QE:=by kernel_rfl
theorem aav:aF Tryz.prog .zero Tryz.f89.params.toList=some ([(.agg [.U 0,.J 1,.J 2,.J 3,.J 4,(.s (.x 0)),(.sl (.x 0))])],⟨5,0,1,0,1,0⟩):=by kernel_rfl
abbrev wTy:Ng→Bool:=Em 15 20
abbrev wE:Ng→Bool:=Em 21 32
abbrev wB:Ng→Bool:=fun x=>decide (x.k=6)
abbrev wO (l:List Int):Ng→Bool:=fun x=>l.contains x.k
def stB (k:Int) (l:List Ng):Bool:=
 if k=7 then rowB [wTy,wE] l else if k=8 then rowB [wO [26,28,29],wE] l else if k=9 then rowB [wE,wB] l||rowB [wE,wB,wB] l
 else if k=10 then rowB [wE,wB] l else if k=11 then rowB [] l||rowB [wE] l else if k=12 then rowB [wE] l else rowB [wO [27]] l
theorem hset {h:Hp} {b:Nat} (hb:h b=none) (o:HO):dP h (h.set b o):=fun c x hc=>by rw[aU _ (fun e=>by rw[e,hb] at hc;cases hc)];exact hc
theorem dP.trans {h k m:Hp} (a:dP h k) (b:dP k m):dP h m:=fun c o hc=>b c o (a c o hc)
theorem rC {h:Hp} {b c:Nat} {v:Value} {p:Ng→Bool} {T:TypeId} (hb:h b=some ⟨[v],T⟩) (W:Want wants h v p):yH h ⟨some (b,0),1,c⟩ [p]:=
 DT hb rfl rfl fun i v' p' h1 h2=>by
  match i with
  | 0=>cases h1;cases h2;exact W
  | i+1=>simp at h1
theorem vJ {h:Hp} {b c:Nat} {v v2:Value} {p p2:Ng→Bool} {T:TypeId} (hb:h b=some ⟨[v,v2],T⟩) (W:Want wants h v p) (W2:Want wants h v2 p2):yH h ⟨some (b,0),2,c⟩ [p,p2]:=
 DT hb rfl rfl fun i v' p' h1 h2=>by
  match i with
  | 0=>cases h1;cases h2;exact W
  | 1=>cases h1;cases h2;exact W2
  | i+2=>simp at h1
theorem ac1 {h:Hp} {b c:Nat} {v v2 v3:Value} {p p2 p3:Ng→Bool} {T:TypeId} (hb:h b=some ⟨[v,v2,v3],T⟩) (W:Want wants h v p) (W2:Want wants h v2 p2) (W3:Want wants h v3 p3):yH h ⟨some (b,0),3,c⟩ [p,p2,p3]:=
 DT hb rfl rfl fun i v' p' h1 h2=>by
  match i with
  | 0=>cases h1;cases h2;exact W
  | 1=>cases h1;cases h2;exact W2
  | 2=>cases h1;cases h2;exact W3
  | i+3=>simp at h1
theorem nN {h:Hp} {b n c:Nat} {l:List Int} {T:TypeId} (hb:h b=some ⟨OG l,T⟩) (hn:l.length=n):Rows h ⟨some (b,0),n,c⟩ (OG l) 1:=
 ⟨by simp[wI,hn],.inr (by rw[bu hb,if_pos (by simp[wI,hn])];simp[← hn,← wI l])⟩
set_option maxHeartbeats 8000000 in
def Qe:Ct Tryz.prog where
 f:=91
 spec:=fun args h φ=>∃ x sl l,args=[lkv x sl]∧NG h sl l∧l.length≤1000000∧φ (.bool (stB x.k l)) h
 ok:=by
  rintro args h φ w ⟨x,sl,l,rfl,R,hl,hφ⟩ hH
  refine dR (bJ Tryz.func91 SY XH [GM,yQ] (fun v k=>∃ k',dP k' k∧φ v k') (di) (bF) ⟨[x.k,x.l,x.c,x.z,x.n],[],[x.x],[],[sl],[],h,dM⟩ ⟨rfl,rfl,rfl,rfl,rfl,rfl⟩ af ?_ w hH rfl)
  generalize hE:(⟨az _,_,_,_⟩:Env)=E
  have s_ctLRow:E.spec 87=(GM).spec:=by rw[← hE];rfl
  have s_ctTof:E.spec 52=(yQ).spec:=by rw[← hE];rfl
  have ep:E.post=(fun v k=>∃ k',dP k' k∧φ v k'):=by rw[← hE]
  clear hE
  unfold JI
  unfold stB at hφ
  have fin:∀ (C:Ctx) (b:Bool) (e:BE),dP h C.h→e.den C=b→φ (.bool b) h→Then E (.ret (.p (.one (.b e)))) C:=by
   intro C b e hC he hb
   rw[ae,ak,ep]
   refine⟨h,hC,?_⟩
   simpa[go_sem,he] using hb
  by_cases h7:x.k=7
  · rw[if_pos h7] at hφ
    rw[ah,if_pos (by simpa[go_sem] using h7),ae,aT]
    intro b hb
    have hb':=hset hb
    rw[ae,ag,if_pos (by rfl),s_ctLRow]
    refine⟨x,sl,l,_,_,rfl,R.le (hb' _),hl,vJ (au _ _ _) (ry _) (eX _),?_⟩
    refine⟨fun h=>(by cases h),(ai _ _).2 ⟨⟨[],[_],[],[],[],[]⟩,rfl,af,rfl,?_⟩⟩
    exact fin _ _ _ (hb' _) rfl hφ
  rw[if_neg h7] at hφ
  rw[ah,if_neg (by simpa[go_sem] using h7),ae]
  by_cases h8:x.k=8
  · rw[if_pos h8] at hφ
    rw[ah,if_pos (by simpa[go_sem] using h8),ae,aT]
    intro b hb
    have hb':=hset hb
    rw[ae,ag,if_pos (by rfl),s_ctTof]
    refine⟨_,rfl,fun p k T hk hp=>?_⟩
    refine⟨fun h=>(by cases h),(ai _ _).2 ⟨⟨[],[],[],[_],[],[]⟩,rfl,by intro u hu;simp at hu;subst hu;rfl,rfl,?_⟩⟩
    have hkk:=dP.trans (hb' _) hk
    have hro:Rows k ⟨some (b,0),3,3⟩ (OG [26,28,29]) 1:=nN (hk _ _ (au _ _ _)) rfl
    have hw:=ru hp hro (by decide)
    rw[ae,aT]
    intro b2 hb2
    have hb2':=hset hb2
    rw[ae,ag,if_pos (by rfl),s_ctLRow]
    refine⟨x,sl,l,_,_,rfl,R.le (dP.trans hkk (hb2' _)),hl,vJ (au _ _ _) (hw.le (hb2' _)) (eX _),?_⟩
    refine⟨fun h=>(by cases h),(ai _ _).2 ⟨⟨[],[_],[],[],[],[]⟩,rfl,af,rfl,?_⟩⟩
    exact fin _ _ _ (dP.trans hkk (hb2' _)) rfl hφ
  rw[if_neg h8] at hφ
  rw[ah,if_neg (by simpa[go_sem] using h8),ae]
  by_cases h9:x.k=9
  · rw[if_pos h9] at hφ
    rw[ah,if_pos (by simpa[go_sem] using h9),ae,aT]
    intro b hb
    have hb':=hset hb
    rw[ae,ag,if_pos (by rfl),s_ctLRow]
    refine⟨x,sl,l,_,_,rfl,R.le (hb' _),hl,vJ (au _ _ _) (eX _) (rq _),?_⟩
    refine⟨fun h=>(by cases h),(ai _ _).2 ⟨⟨[],[_],[],[],[],[]⟩,rfl,af,rfl,?_⟩⟩
    cases hc:rowB [wE,wB] l with
    | true=>
      rw[hc] at hφ
      rw[ae,ah,if_pos (by simp[go_sem])]
      exact fin _ _ _ (hb' _) rfl hφ
    | false=>
      rw[hc,Bool.false_or] at hφ
      rw[ae,ah,if_neg (by simp[go_sem]),ae,aT]
      intro b2 hb2
      have hb2':=hset hb2
      rw[ae,ag,if_pos (by rfl),s_ctLRow]
      refine⟨x,sl,l,_,_,rfl,R.le (dP.trans (hb' _) (hb2' _)),hl,ac1 (au _ _ _) (eX _) (rq _) (rq _),?_⟩
      refine⟨fun h=>(by cases h),(ai _ _).2 ⟨⟨[],[_],[],[],[],[]⟩,rfl,af,rfl,?_⟩⟩
      exact fin _ _ _ (dP.trans (hb' _) (hb2' _)) rfl hφ
  rw[if_neg h9] at hφ
  rw[ah,if_neg (by simpa[go_sem] using h9),ae]
  by_cases h10:x.k=10
  · rw[if_pos h10] at hφ
    rw[ah,if_pos (by simpa[go_sem] using h10),ae,aT]
    intro b hb
    have hb':=hset hb
    rw[ae,ag,if_pos (by rfl),s_ctLRow]
    refine⟨x,sl,l,_,_,rfl,R.le (hb' _),hl,vJ (au _ _ _) (eX _) (rq _),?_⟩
    refine⟨fun h=>(by cases h),(ai _ _).2 ⟨⟨[],[_],[],[],[],[]⟩,rfl,af,rfl,?_⟩⟩
    exact fin _ _ _ (hb' _) rfl hφ
  rw[if_neg h10] at hφ
  rw[ah,if_neg (by simpa[go_sem] using h10),ae]
  by_cases h11:x.k=11
  · rw[if_pos h11] at hφ
    rw[ah,if_pos (by simpa[go_sem] using h11),ae,ag,if_pos (by rfl),s_ctLRow]
    refine⟨x,sl,l,_,_,rfl,R,hl,gJ _,?_⟩
    refine⟨fun h=>(by cases h),(ai _ _).2 ⟨⟨[],[_],[],[],[],[]⟩,rfl,af,rfl,?_⟩⟩
    cases hc:rowB [] l with
    | true=>
      rw[hc] at hφ
      rw[ae,ah,if_pos (by simp[go_sem])]
      exact fin _ _ _ (fun _ _ h=>h) rfl hφ
    | false=>
      rw[hc,Bool.false_or] at hφ
      rw[ae,ah,if_neg (by simp[go_sem]),ae,aT]
      intro b2 hb2
      have hb2':=hset hb2
      rw[ae,ag,if_pos (by rfl),s_ctLRow]
      refine⟨x,sl,l,_,_,rfl,R.le (dP.trans (fun _ _ h=>h) (hb2' _)),hl,rC (au _ _ _) (eX _),?_⟩
      refine⟨fun h=>(by cases h),(ai _ _).2 ⟨⟨[],[_],[],[],[],[]⟩,rfl,af,rfl,?_⟩⟩
      exact fin _ _ _ (dP.trans (fun _ _ h=>h) (hb2' _)) rfl hφ
  rw[if_neg h11] at hφ
  rw[ah,if_neg (by simpa[go_sem] using h11),ae]
  by_cases h12:x.k=12
  · rw[if_pos h12] at hφ
    rw[ah,if_pos (by simpa[go_sem] using h12),ae,aT]
    intro b hb
    have hb':=hset hb
    rw[ae,ag,if_pos (by rfl),s_ctLRow]
    refine⟨x,sl,l,_,_,rfl,R.le (hb' _),hl,rC (au _ _ _) (eX _),?_⟩
    refine⟨fun h=>(by cases h),(ai _ _).2 ⟨⟨[],[_],[],[],[],[]⟩,rfl,af,rfl,?_⟩⟩
    exact fin _ _ _ (hb' _) rfl hφ
  rw[if_neg h12] at hφ
  rw[ah,if_neg (by simpa[go_sem] using h12),ae]
  rw[aT]
  intro b hb
  have hb':=hset hb
  rw[ae,ag,if_pos (by rfl),s_ctTof]
  refine⟨_,rfl,fun p k T hk hp=>?_⟩
  refine⟨fun h=>(by cases h),(ai _ _).2 ⟨⟨[],[],[],[_],[],[]⟩,rfl,by intro u hu;simp at hu;subst hu;rfl,rfl,?_⟩⟩
  have hkk:=dP.trans (hb' _) hk
  have hro:Rows k ⟨some (b,0),1,1⟩ (OG [27]) 1:=nN (hk _ _ (au _ _ _)) rfl
  have hw:=ru hp hro (by decide)
  rw[ae,aT]
  intro b2 hb2
  have hb2':=hset hb2
  rw[ae,ag,if_pos (by rfl),s_ctLRow]
  refine⟨x,sl,l,_,_,rfl,R.le (dP.trans hkk (hb2' _)),hl,rC (au _ _ _) (hw.le (hb2' _)),?_⟩
  refine⟨fun h=>(by cases h),(ai _ _).2 ⟨⟨[],[_],[],[],[],[]⟩,rfl,af,rfl,?_⟩⟩
  exact fin _ _ _ (dP.trans hkk (hb2' _)) rfl hφ
def ng0:Ng:=⟨0,0,0,0,0,[]⟩
def fnB (n:Int) (l:List Ng):Bool:=
 decide (2≤l.length)&&decide ((l.length:Int) - 2=n)&&decide ((l.getD (l.length - 1) ng0).k=6)&&(decide ((l.getD (l.length - 2) ng0).k=14)||wTy (l.getD (l.length - 2) ng0))&&(l.take (l.length - 2)).all (wO [5])
theorem NG.take {h:Hp} {sl:bT} {l:List Ng} (R:NG h sl l) {m c:Nat} (hm:m≤l.length):NG h ⟨sl.a,m,c⟩ (l.take m):=by
 have hn:=NG.n R
 have e:rO (l.take m)=(rO l).take (m*6):=by
  have h1:rO l=rO (l.take m)++rO (l.drop m):=by rw[← Ho,List.take_append_drop]
  have h2:(rO (l.take m)).length=m*6:=by rw[zS,List.length_take];omega
  rw[h1,← h2,List.take_left]
 refine⟨by rw[zS,List.length_take];show _=m*6;omega,?_⟩
 by_cases h0:m=0
 · exact .inl h0
 right
 obtain⟨b,o,ha⟩:=Rows.nn R (j:=0) (by omega)
 rcases R.2 with h1 | hr
 · omega
 · show hread h sl.a (m*6)=_
   rw[ha] at hr⊢
   have:=KP hr (k:=0) (m:=m*6) (by omega)
   rw[e]
   simpa using this
set_option maxRecDepth 100000 in
set_option maxHeartbeats 8000000 in
def VI:Ct Tryz.prog where
 f:=89
 spec:=fun args h φ=>∃ x sl l,args=[lkv x sl]∧NG h sl l∧l.length≤1000000∧sl.n≤sl.c∧φ (.bool (fnB x.n l)) h
 ok:=by
  rintro args h φ w ⟨x,sl,l,rfl,R,hl,hc,hφ⟩ hH
  refine dR (bJ Tryz.func89 WA aav [Ba,GX,yQ,xP] (fun v k=>∃ k',dP k' k∧φ v k') (di) (bF) ⟨[x.k,x.l,x.c,x.z,x.n],[],[x.x],[],[sl],[],h,dM⟩ ⟨rfl,rfl,rfl,rfl,rfl,rfl⟩ af ?_ w hH rfl)
  generalize hE:(⟨az _,_,_,_⟩:Env)=E
  have s_ctTblock:E.spec 132=(Ba).spec:=by rw[← hE];rfl
  have s_ctSomeT:E.spec 88=(GX).spec:=by rw[← hE];rfl
  have s_ctTof:E.spec 52=(yQ).spec:=by rw[← hE];rfl
  have s_ctLAll:E.spec 51=(xP).spec:=by rw[← hE];rfl
  have ep:E.post=(fun v k=>∃ k',dP k' k∧φ v k'):=by rw[← hE]
  clear hE
  unfold QE
  have hn:=NG.n R
  unfold fnB at hφ
  by_cases h2:2≤l.length
  rotate_left
  · rw[decide_eq_false h2] at hφ
    have hz:¬ ((2:Int)≤sl.n):=by omega
    rw[← ae]
    iterate 16 (try simp only[ae];try simp[go_sem,hz])
    rw[ep]
    exact⟨h,fun _ _ h=>h,by simpa using hφ⟩
  have hz:¬ ((sl.n:Int)<2):=by omega
  have hz':(2:Int)≤sl.n:=by omega
  have r1:(-9223372036854775808:Int)≤sl.n - 2:=by omega
  have r2:(sl.n:Int) - 2≤9223372036854775807:=by omega
  have r3:(-9223372036854775808:Int)≤sl.n - 1:=by omega
  have r4:(sl.n:Int) - 1≤9223372036854775807:=by omega
  rw[decide_eq_true h2,Bool.true_and] at hφ
  by_cases hx:(l.length:Int) - 2=x.n
  rotate_left
  · rw[decide_eq_false hx] at hφ
    have hx':¬ ((sl.n:Int) - 2=x.n):=by omega
    rw[← ae]
    iterate 16 (try simp only[ae];try simp[go_sem,hz',hx',r1,r2])
    rw[ep]
    exact⟨h,fun _ _ h=>h,by simpa using hφ⟩
  have hx':(sl.n:Int) - 2=x.n:=by omega
  rw[decide_eq_true hx,Bool.true_and] at hφ
  obtain⟨b,o,ha⟩:=Rows.nn R (j:=0) (by omega)
  have rd1:=NG.node R (j:=l.length - 1) (by omega) ha
  have rd2:=NG.node R (j:=l.length - 2) (by omega) ha
  have rdk:=Rows.read (off:=0) (m:=1) R (j:=l.length - 2) (by omega) (by omega) ha
  rw[Nat.add_zero,Nat.add_zero,nJ (by omega)] at rdk
  rw[List.getD_eq_getElem?_getD,List.getD_eq_getElem?_getD,List.getElem?_eq_getElem (by omega:l.length - 1<l.length),List.getElem?_eq_getElem (by omega:l.length - 2<l.length),Option.getD_some,Option.getD_some] at hφ
  generalize l[l.length - 1]=y at *
  generalize l[l.length - 2]=z at *
  have q1:((sl.n:Int) - 1).toNat=l.length - 1:=by omega
  have q2:((sl.n:Int) - 2).toNat=l.length - 2:=by omega
  have q3:(0:Int)≤sl.n - 1:=by omega
  have q4:(0:Int)≤sl.n - 2:=by omega
  have q5:(1:Int)≤sl.n:=by omega
  rw[aj]
  refine⟨by simp[go_sem];omega,?_⟩
  rw[ae,aj]
  refine⟨by simp[go_sem,hx']<;>omega,?_⟩
  rw[ae,aj]
  refine⟨by simp[go_sem,hx',ha];omega,?_⟩
  rw[ae,ax,if_pos (by simp[go_sem,hx',hz'])]
  refine (ai _ _).2 ⟨⟨[y.k,y.l,y.c,y.z,y.n],[],[y.x],[],[],[]⟩,rfl,af,by simpa[go_sem,ha,Ng.cs,q1] using rd1,?_⟩
  rw[ae,ag,if_pos (by simp[go_sem,hx',hz']),s_ctTblock]
  refine⟨y,rfl,?_⟩
  by_cases hy:y.k=6
  rotate_left
  · rw[decide_eq_false hy] at hφ
    refine⟨fun h=>(by cases h),(ai _ _).2 ⟨⟨[],[false],[],[],[],[]⟩,rfl,af,by rw[decide_eq_false hy];rfl,?_⟩⟩
    iterate 14 (try simp only[ae];try simp[go_sem,hx'])
    rw[ep]
    exact⟨h,fun _ _ h=>h,by simpa using hφ⟩
  rw[decide_eq_true hy,Bool.true_and] at hφ
  refine⟨fun h=>(by cases h),(ai _ _).2 ⟨⟨[],[true],[],[],[],[]⟩,rfl,af,by rw[decide_eq_true hy];rfl,?_⟩⟩
  rw[ae,aj]
  refine⟨by simp[go_sem,hx']<;>omega,?_⟩
  rw[ae,aj]
  refine⟨by simp[go_sem,hx',ha]<;>omega,?_⟩
  rw[ae,aj]
  refine⟨by simp[go_sem,hx',ha],?_⟩
  rw[ae,ax,if_pos (by simp[go_sem,hx',hz'])]
  refine (ai _ _).2 ⟨⟨[z.k],[],[],[],[],[]⟩,rfl,af,by simpa[go_sem,ha,Ng.cs,q2] using rdk,?_⟩
  have last:∀ (i1 i2 i3 i4 i5 i6 i7 i8 i9 i10 i11:Int) (b0 b1:Bool) (t1 t2:List UInt8),(b0&&(decide (i6=14)||b1))=true→φ (.bool ((l.take (l.length - 2)).all (wO [5]))) h→
   Then E (.N (.R (.sub (.cnt (.x 0)) (.c 2)))
    (.N (.and (.and (.le (.c 0) (.sub (.cnt (.x 0)) (.c 2))) (.le (.sub (.cnt (.x 0)) (.c 2)) (.cap (.x 0)))) (.and (.le (.c 0) (.c 0)) (.le (.c 0) (.sub (.cnt (.x 0)) (.c 2)))))
    (.mk [(.i .u8 (.c 5))] 5 1
    (.C 52 [.L 1] (.p (.one (.v 0))) ⟨0,0,0,1,0,0⟩
    (.C 51 [(.agg [.U 0,.J 1,.J 2,.J 3,.J 4,(.s (.x 0)),(.sl (.sub (.x 0) (.c 0) (.sub (.cnt (.x 0)) (.c 2)) 6))]),(.one (.v 0))] (.p (.B 2)) ⟨0,1,0,0,0,0⟩
    (.ret (.p (.B 2)))))))) ⟨[x.k,x.l,x.c,x.z,x.n,i1,i2,i3,i4,i5,i6,i7,i8,i9,i10,i11],[b0,b1],[x.x,t1,t2],[],[sl],[],h,dM⟩:=by
   intro i1 i2 i3 i4 i5 i6 i7 i8 i9 i10 i11 b0 b1 t1 t2 _ hφ
   rw[ae,aj]
   refine⟨by simp[go_sem]<;>omega,?_⟩
   rw[ae,aj]
   refine⟨by simp[go_sem]<;>omega,?_⟩
   rw[ae,aT]
   intro b2 hb2
   have hb2':=hset hb2
   rw[ae,ag,if_pos (by rfl),s_ctTof]
   refine⟨_,rfl,fun p k T hk hp=>?_⟩
   refine⟨fun h=>(by cases h),(ai _ _).2 ⟨⟨[],[],[],[_],[],[]⟩,rfl,by intro u hu;simp at hu;subst hu;rfl,rfl,?_⟩⟩
   have hkk:=dP.trans (hb2' _) hk
   have hro:Rows k ⟨some (b2,0),1,1⟩ (OG [5]) 1:=nN (hk _ _ (au _ _ _)) rfl
   have hw:=ru hp hro (by decide)
   rw[ae,ag,if_pos (by rfl),s_ctLAll]
   have hsub:(LE.den (⟨[x.k,x.l,x.c,x.z,x.n,i1,i2,i3,i4,i5,i6,i7,i8,i9,i10,i11],[b0,b1],[x.x,t1,t2],[],[sl],[],h,dM⟩:Ctx) (.sub (.x 0) (.c 0) (.sub (.cnt (.x 0)) (.c 2)) 6))=⟨sl.a,l.length - 2,sl.c⟩:=by
    show (⟨if sl.c=0 then sl.a else sl.a.map fun x=>(x.1,x.2+0*6),((sl.n:Int) - 2).toNat - 0,sl.c - 0⟩:bT)=_
    rw[q2,ha]
    simp
   have hNG:NG k ⟨sl.a,l.length - 2,sl.c⟩ (l.take (l.length - 2)):=(NG.take R (by omega)).le hkk
   refine⟨x,⟨sl.a,l.length - 2,sl.c⟩,l.take (l.length - 2),_,_,by rw[← hsub];rfl,hNG,by rw[List.length_take];omega,hw,?_⟩
   refine⟨fun h=>(by cases h),(ai _ _).2 ⟨⟨[],[_],[],[],[],[]⟩,rfl,af,rfl,?_⟩⟩
   rw[ae,ak,ep]
   exact⟨h,hkk,hφ⟩
  by_cases hk:z.k=14
  · rw[decide_eq_true hk,Bool.true_or,Bool.true_and] at hφ
    rw[ae,aj]
    refine⟨by simp[go_sem,hk],?_⟩
    rw[ae,aj]
    refine⟨by simp[go_sem,hk],?_⟩
    rw[ae,ax,if_neg (by simp[go_sem,hk]),ae,ag,if_neg (by simp[go_sem,hk]),ae,ah,if_neg (by simp[go_sem,hk,hz',hx'])]
    exact last _ _ _ _ _ _ _ _ _ _ _ _ _ _ _ (by simp[hk]) hφ
  · rw[decide_eq_false hk,Bool.false_or] at hφ
    rw[ae,aj]
    refine⟨by simp[go_sem]<;>omega,?_⟩
    rw[ae,aj]
    refine⟨by simp[go_sem,ha]<;>omega,?_⟩
    rw[ae,ax,if_pos (by simp[go_sem,hz',hx',hk])]
    refine (ai _ _).2 ⟨⟨[z.k,z.l,z.c,z.z,z.n],[],[z.x],[],[],[]⟩,rfl,af,by simpa[go_sem,ha,Ng.cs,q2] using rd2,?_⟩
    rw[ae,ag,if_pos (by simp[go_sem,hz',hx',hk]),s_ctSomeT]
    refine⟨z,rfl,?_⟩
    cases hw:wTy z with
    | false=>
      rw[hw] at hφ
      refine⟨fun h=>(by cases h),(ai _ _).2 ⟨⟨[],[false],[],[],[],[]⟩,rfl,af,by rw[show Em 15 20 z=false from hw];rfl,?_⟩⟩
      rw[ae,ah,if_pos (by simp[go_sem,hk]),ae,ak,ep]
      exact⟨h,fun _ _ h=>h,by simpa[go_sem] using hφ⟩
    | true=>
      rw[hw,Bool.true_and] at hφ
      refine⟨fun h=>(by cases h),(ai _ _).2 ⟨⟨[],[true],[],[],[],[]⟩,rfl,af,by rw[show Em 15 20 z=true from hw];rfl,?_⟩⟩
      rw[ae,ah,if_neg (by simp[go_sem,hz',hx'])]
      exact last _ _ _ _ _ _ _ _ _ _ _ _ _ _ _ (by simp) hφ
end Go.Proofs.YtllbpdllkkcajaaGreatDoor
namespace Go.Proofs.YtllbpdllkkcajaaGreatDoor
open Go.RowKit
attribute [local go_sem] bI bH aj ah ag aS ax aQ ak says_again BE.den IE.den SE.den LE.den AE.den CE.den PE.den VE.den KV.val dO.den dO.cnt jO fD jX allL Ctx.push Ctx.heap Ctx.cut Ctx.bare Ctx.mark Inc.blank List.getD_cons_zero List.getD_cons_succ List.cons_append List.nil_append List.append_nil List.map_cons List.map_nil List.replicate_zero List.replicate_succ az dm bY dh cO dK dJ bC bz bD bW bV aH aX aI aG au aP aO dH af and_assoc
def EI:Fm:=(.ite (.eqI (.x 0) (.c 2))
 (.mk [(.i .u8 (.c 3))] 5 1
 (.C 52 [.L 1] (.p (.one (.v 0))) ⟨0,0,0,1,0,0⟩
 (.C 51 [(.agg [.U 0,.J 1,.J 2,.J 3,.J 4,(.s (.x 0)),(.sl (.x 0))]),(.one (.v 0))] (.p (.B 0)) ⟨0,1,0,0,0,0⟩
 (.ret (.p (.B 0))))))
 (.ite (.eqI (.x 0) (.c 3))
 (.mk [(.c (.fn 88))] 81 1
 (.C 87 [(.agg [.U 0,.J 1,.J 2,.J 3,.J 4,(.s (.x 0)),(.sl (.x 0))]),.L 1] (.p (.B 0)) ⟨0,1,0,0,0,0⟩
 (.ret (.p (.B 0)))))
 (.ite (.eqI (.x 0) (.c 5))
 (.mk [(.c (.fn 88))] 81 1
 (.C 87 [(.agg [.U 0,.J 1,.J 2,.J 3,.J 4,(.s (.x 0)),(.sl (.x 0))]),.L 1] (.p (.B 0)) ⟨0,1,0,0,0,0⟩
 (.ret (.p (.B 0)))))
 (.ite (.eqI (.x 0) (.c 20))
 (.mk [(.c (.fn 88))] 81 1
 (.C 87 [(.agg [.U 0,.J 1,.J 2,.J 3,.J 4,(.s (.x 0)),(.sl (.x 0))]),.L 1] (.p (.B 0)) ⟨0,1,0,0,0,0⟩
 (.ret (.p (.B 0)))))
 (.ite (.eqI (.x 0) (.c 4))
 (.C 89 [(.agg [.U 0,.J 1,.J 2,.J 3,.J 4,(.s (.x 0)),(.sl (.x 0))])] (.p (.B 0)) ⟨0,1,0,0,0,0⟩
 (.ret (.p (.B 0))))
 (.ite (.eqI (.x 0) (.c 6))
 (.C 90 [(.one (.i .u8 (.c 7))),(.one (.i .u8 (.c 13)))] (.p (.one (.v 0))) ⟨0,0,0,1,0,0⟩
 (.C 51 [(.agg [.U 0,.J 1,.J 2,.J 3,.J 4,(.s (.x 0)),(.sl (.x 0))]),(.one (.v 0))] (.p (.B 0)) ⟨0,1,0,0,0,0⟩
 (.ret (.p (.B 0)))))
 (.ite (.eqI (.x 0) (.c 7))
 (.C 91 [(.agg [.U 0,.J 1,.J 2,.J 3,.J 4,(.s (.x 0)),(.sl (.x 0))])] (.p (.B 0)) ⟨0,1,0,0,0,0⟩
 (.ret (.p (.B 0))))
 (.ite (.eqI (.x 0) (.c 8))
 (.C 91 [(.agg [.U 0,.J 1,.J 2,.J 3,.J 4,(.s (.x 0)),(.sl (.x 0))])] (.p (.B 0)) ⟨0,1,0,0,0,0⟩
 (.ret (.p (.B 0))))
 (.ite (.eqI (.x 0) (.c 9))
 (.C 91 [(.agg [.U 0,.J 1,.J 2,.J 3,.J 4,(.s (.x 0)),(.sl (.x 0))])] (.p (.B 0)) ⟨0,1,0,0,0,0⟩
 (.ret (.p (.B 0))))
 (.ite (.eqI (.x 0) (.c 10))
 (.C 91 [(.agg [.U 0,.J 1,.J 2,.J 3,.J 4,(.s (.x 0)),(.sl (.x 0))])] (.p (.B 0)) ⟨0,1,0,0,0,0⟩
 (.ret (.p (.B 0))))
 (.ite (.eqI (.x 0) (.c 11))
 (.C 91 [(.agg [.U 0,.J 1,.J 2,.J 3,.J 4,(.s (.x 0)),(.sl (.x 0))])] (.p (.B 0)) ⟨0,1,0,0,0,0⟩
 (.ret (.p (.B 0))))
 (.ite (.eqI (.x 0) (.c 12))
 (.C 91 [(.agg [.U 0,.J 1,.J 2,.J 3,.J 4,(.s (.x 0)),(.sl (.x 0))])] (.p (.B 0)) ⟨0,1,0,0,0,0⟩
 (.ret (.p (.B 0))))
 (.ite (.eqI (.x 0) (.c 13))
 (.C 91 [(.agg [.U 0,.J 1,.J 2,.J 3,.J 4,(.s (.x 0)),(.sl (.x 0))])] (.p (.B 0)) ⟨0,1,0,0,0,0⟩
 (.ret (.p (.B 0))))
 (.ite (.eqI (.x 0) (.c 27))
 (.C 51 [(.agg [.U 0,.J 1,.J 2,.J 3,.J 4,(.s (.x 0)),(.sl (.x 0))]),(.one (.c (.fn 92)))] (.p (.B 0)) ⟨0,1,0,0,0,0⟩
 (.ret (.p (.B 0))))
 (.ite (.eqI (.x 0) (.c 28))
 (.mk [(.c (.fn 92)),(.c (.fn 92))] 81 2
 (.C 87 [(.agg [.U 0,.J 1,.J 2,.J 3,.J 4,(.s (.x 0)),(.sl (.x 0))]),.L 1] (.p (.B 0)) ⟨0,1,0,0,0,0⟩
 (.ret (.p (.B 0)))))
 (.ite (.eqI (.x 0) (.c 31))
 (.mk [(.c (.fn 92)),(.c (.fn 92))] 81 2
 (.C 87 [(.agg [.U 0,.J 1,.J 2,.J 3,.J 4,(.s (.x 0)),(.sl (.x 0))]),.L 1] (.p (.B 0)) ⟨0,1,0,0,0,0⟩
 (.ret (.p (.B 0)))))
 (.ite (.eqI (.x 0) (.c 29))
 (.mk [(.c (.fn 92))] 81 1
 (.C 87 [(.agg [.U 0,.J 1,.J 2,.J 3,.J 4,(.s (.x 0)),(.sl (.x 0))]),.L 1] (.p (.B 0)) ⟨0,1,0,0,0,0⟩
 (.ret (.p (.B 0)))))
 (.ite (.eqI (.x 0) (.c 30))
 (.mk [(.c (.fn 92))] 81 1
 (.C 87 [(.agg [.U 0,.J 1,.J 2,.J 3,.J 4,(.s (.x 0)),(.sl (.x 0))]),.L 1] (.p (.B 0)) ⟨0,1,0,0,0,0⟩
 (.ret (.p (.B 0)))))
 (.ite (.eqI (.x 0) (.c 32))
 (.mk [(.i .u8 (.c 19))] 5 1
 (.C 52 [.L 1] (.p (.one (.v 0))) ⟨0,0,0,1,0,0⟩
 (.mk [(.v 0)] 81 1
 (.C 87 [(.agg [.U 0,.J 1,.J 2,.J 3,.J 4,(.s (.x 0)),(.sl (.x 0))]),.L 2] (.p (.B 0)) ⟨0,1,0,0,0,0⟩
 (.ite (.x 0)
 (.ret (.p (.one (.b (.c true)))))
 (.mk [(.i .u8 (.c 20))] 5 1
 (.C 52 [.L 3] (.p (.one (.v 1))) ⟨0,0,0,1,0,0⟩
 (.mk [(.v 1),(.c (.fn 92))] 81 2
 (.C 87 [(.agg [.U 0,.J 1,.J 2,.J 3,.J 4,(.s (.x 0)),(.sl (.x 0))]),.L 4] (.p (.B 1)) ⟨0,1,0,0,0,0⟩
 (.ret (.p (.B 1))))))))))))
 (.ite (.eqI (.x 0) (.c 14))
 (.C 87 [(.agg [.U 0,.J 1,.J 2,.J 3,.J 4,(.s (.x 0)),(.sl (.x 0))]),(.one (.sl .nil))] (.p (.B 0)) ⟨0,1,0,0,0,0⟩
 (.ret (.p (.B 0))))
 (.ite (.eqI (.x 0) (.c 15))
 (.C 87 [(.agg [.U 0,.J 1,.J 2,.J 3,.J 4,(.s (.x 0)),(.sl (.x 0))]),(.one (.sl .nil))] (.p (.B 0)) ⟨0,1,0,0,0,0⟩
 (.ret (.p (.B 0))))
 (.ite (.eqI (.x 0) (.c 16))
 (.C 87 [(.agg [.U 0,.J 1,.J 2,.J 3,.J 4,(.s (.x 0)),(.sl (.x 0))]),(.one (.sl .nil))] (.p (.B 0)) ⟨0,1,0,0,0,0⟩
 (.ret (.p (.B 0))))
 (.ite (.eqI (.x 0) (.c 17))
 (.C 87 [(.agg [.U 0,.J 1,.J 2,.J 3,.J 4,(.s (.x 0)),(.sl (.x 0))]),(.one (.sl .nil))] (.p (.B 0)) ⟨0,1,0,0,0,0⟩
 (.ret (.p (.B 0))))
 (.ite (.eqI (.x 0) (.c 18))
 (.C 87 [(.agg [.U 0,.J 1,.J 2,.J 3,.J 4,(.s (.x 0)),(.sl (.x 0))]),(.one (.sl .nil))] (.p (.B 0)) ⟨0,1,0,0,0,0⟩
 (.ret (.p (.B 0))))
 (.ite (.eqI (.x 0) (.c 19))
 (.C 87 [(.agg [.U 0,.J 1,.J 2,.J 3,.J 4,(.s (.x 0)),(.sl (.x 0))]),(.one (.sl .nil))] (.p (.B 0)) ⟨0,1,0,0,0,0⟩
 (.ret (.p (.B 0))))
 (.ite (.eqI (.x 0) (.c 21))
 (.C 87 [(.agg [.U 0,.J 1,.J 2,.J 3,.J 4,(.s (.x 0)),(.sl (.x 0))]),(.one (.sl .nil))] (.p (.B 0)) ⟨0,1,0,0,0,0⟩
 (.ret (.p (.B 0))))
 (.ite (.eqI (.x 0) (.c 22))
 (.C 87 [(.agg [.U 0,.J 1,.J 2,.J 3,.J 4,(.s (.x 0)),(.sl (.x 0))]),(.one (.sl .nil))] (.p (.B 0)) ⟨0,1,0,0,0,0⟩
 (.ret (.p (.B 0))))
 (.ite (.eqI (.x 0) (.c 23))
 (.C 87 [(.agg [.U 0,.J 1,.J 2,.J 3,.J 4,(.s (.x 0)),(.sl (.x 0))]),(.one (.sl .nil))] (.p (.B 0)) ⟨0,1,0,0,0,0⟩
 (.ret (.p (.B 0))))
 (.ite (.eqI (.x 0) (.c 24))
 (.C 87 [(.agg [.U 0,.J 1,.J 2,.J 3,.J 4,(.s (.x 0)),(.sl (.x 0))]),(.one (.sl .nil))] (.p (.B 0)) ⟨0,1,0,0,0,0⟩
 (.ret (.p (.B 0))))
 (.ite (.eqI (.x 0) (.c 25))
 (.C 87 [(.agg [.U 0,.J 1,.J 2,.J 3,.J 4,(.s (.x 0)),(.sl (.x 0))]),(.one (.sl .nil))] (.p (.B 0)) ⟨0,1,0,0,0,0⟩
 (.ret (.p (.B 0))))
 (.ite (.eqI (.x 0) (.c 26))
 (.C 87 [(.agg [.U 0,.J 1,.J 2,.J 3,.J 4,(.s (.x 0)),(.sl (.x 0))]),(.one (.sl .nil))] (.p (.B 0)) ⟨0,1,0,0,0,0⟩
 (.ret (.p (.B 0))))
 (.ret (.p (.one (.b (.c false))))))))))))))))))))))))))))))))))))
theorem NU:bG ⟨true,[1000005]⟩ Tryz.prog (fun l=>([]:List bZ).getD l ⟨[],[],[]⟩) Tryz.f53=EI:=by kernel_rfl
theorem Us:aF Tryz.prog .zero Tryz.f53.params.toList=some ([(.agg [.U 0,.J 1,.J 2,.J 3,.J 4,(.s (.x 0)),(.sl (.x 0))])],⟨5,0,1,0,1,0⟩):=by kernel_rfl
def fZ (k n:Int) (l:List Ng):Bool:=
 if k=2 then l.all (wO [3])
 else if k=3 then rowB [wTy] l
 else if k=5 then rowB [wTy] l
 else if k=20 then rowB [wTy] l
 else if k=4 then fnB n l
 else if k=6 then l.all (Em 7 13)
 else if k=7 then stB k l
 else if k=8 then stB k l
 else if k=9 then stB k l
 else if k=10 then stB k l
 else if k=11 then stB k l
 else if k=12 then stB k l
 else if k=13 then stB k l
 else if k=27 then l.all wE
 else if k=28 then rowB [wE,wE] l
 else if k=31 then rowB [wE,wE] l
 else if k=29 then rowB [wE] l
 else if k=30 then rowB [wE] l
 else if k=32 then rowB [wO [19]] l||rowB [wO [20],wE] l
 else if k=14 then rowB [] l
 else if k=15 then rowB [] l
 else if k=16 then rowB [] l
 else if k=17 then rowB [] l
 else if k=18 then rowB [] l
 else if k=19 then rowB [] l
 else if k=21 then rowB [] l
 else if k=22 then rowB [] l
 else if k=23 then rowB [] l
 else if k=24 then rowB [] l
 else if k=25 then rowB [] l
 else if k=26 then rowB [] l else false
set_option maxRecDepth 100000 in
set_option maxHeartbeats 16000000 in
def Ji:Ct Tryz.prog where
 f:=53
 spec:=fun args h φ=>∃ x sl l,args=[lkv x sl]∧NG h sl l∧l.length≤1000000∧sl.n≤sl.c∧φ (.bool (fZ x.k x.n l)) h
 ok:=by
  rintro args h φ w ⟨x,sl,l,rfl,R,hl,hc,hφ⟩ hH
  refine dR (bJ Tryz.func53 NU Us [yQ,xP,GM,VI,uD,Qe] (fun v k=>∃ k',dP k' k∧φ v k') (di) (bF) ⟨[x.k,x.l,x.c,x.z,x.n],[],[x.x],[],[sl],[],h,dM⟩ ⟨rfl,rfl,rfl,rfl,rfl,rfl⟩ af ?_ w hH rfl)
  generalize hE:(⟨az _,_,_,_⟩:Env)=E
  have s_ctTof:E.spec 52=(yQ).spec:=by rw[← hE];rfl
  have s_ctLAll:E.spec 51=(xP).spec:=by rw[← hE];rfl
  have s_ctLRow:E.spec 87=(GM).spec:=by rw[← hE];rfl
  have s_ctLFun:E.spec 89=(VI).spec:=by rw[← hE];rfl
  have s_ctBtw:E.spec 90=(uD).spec:=by rw[← hE];rfl
  have s_ctLStat:E.spec 91=(Qe).spec:=by rw[← hE];rfl
  have ep:E.post=(fun v k=>∃ k',dP k' k∧φ v k'):=by rw[← hE]
  clear hE
  unfold EI
  unfold fZ at hφ
  have fin:∀ (C:Ctx) (b:Bool) (e:BE),dP h C.h→e.den C=b→φ (.bool b) h→Then E (.ret (.p (.one (.b e)))) C:=by
   intro C b e hC he hb
   rw[ae,ak,ep]
   refine⟨h,hC,?_⟩
   simpa[go_sem,he] using hb
  by_cases c2:x.k=2
  · rw[if_pos c2] at hφ
    rw[ah,if_pos (by simpa[go_sem] using c2)]
    rw[ae,aT]
    intro b hb
    have hb':=hset hb
    rw[ae,ag,if_pos (by rfl),s_ctTof]
    refine⟨_,rfl,fun pb kb Tb hkb hpb=>?_⟩
    refine⟨fun h=>(by cases h),(ai _ _).2 ⟨⟨[],[],[],[_],[],[]⟩,rfl,by intro u hu;simp at hu;subst hu;rfl,rfl,?_⟩⟩
    have hkkb:=dP.trans (hb' _) hkb
    have hrob:Rows kb ⟨some (b,0),1,1⟩ (OG [3]) 1:=nN (hkb _ _ (au _ _ _)) rfl
    have hwb:=ru hpb hrob (by decide)
    rw[ae,ag,if_pos (by rfl),s_ctLAll]
    refine⟨x,sl,l,_,_,rfl,R.le hkkb,hl,hwb,?_⟩
    refine⟨fun h=>(by cases h),(ai _ _).2 ⟨⟨[],[_],[],[],[],[]⟩,rfl,af,rfl,?_⟩⟩
    exact fin _ _ _ hkkb rfl hφ
  rw[if_neg c2] at hφ
  rw[ah,if_neg (by simpa[go_sem] using c2),ae]
  by_cases c3:x.k=3
  · rw[if_pos c3] at hφ
    rw[ah,if_pos (by simpa[go_sem] using c3)]
    rw[ae,aT]
    intro b hb
    have hb':=hset hb
    rw[ae,ag,if_pos (by rfl),s_ctLRow]
    refine⟨x,sl,l,_,_,rfl,R.le (hb' _),hl,rC (au _ _ _) (ry _),?_⟩
    refine⟨fun h=>(by cases h),(ai _ _).2 ⟨⟨[],[_],[],[],[],[]⟩,rfl,af,rfl,?_⟩⟩
    exact fin _ _ _ (hb' _) rfl hφ
  rw[if_neg c3] at hφ
  rw[ah,if_neg (by simpa[go_sem] using c3),ae]
  by_cases c5:x.k=5
  · rw[if_pos c5] at hφ
    rw[ah,if_pos (by simpa[go_sem] using c5)]
    rw[ae,aT]
    intro b hb
    have hb':=hset hb
    rw[ae,ag,if_pos (by rfl),s_ctLRow]
    refine⟨x,sl,l,_,_,rfl,R.le (hb' _),hl,rC (au _ _ _) (ry _),?_⟩
    refine⟨fun h=>(by cases h),(ai _ _).2 ⟨⟨[],[_],[],[],[],[]⟩,rfl,af,rfl,?_⟩⟩
    exact fin _ _ _ (hb' _) rfl hφ
  rw[if_neg c5] at hφ
  rw[ah,if_neg (by simpa[go_sem] using c5),ae]
  by_cases c20:x.k=20
  · rw[if_pos c20] at hφ
    rw[ah,if_pos (by simpa[go_sem] using c20)]
    rw[ae,aT]
    intro b hb
    have hb':=hset hb
    rw[ae,ag,if_pos (by rfl),s_ctLRow]
    refine⟨x,sl,l,_,_,rfl,R.le (hb' _),hl,rC (au _ _ _) (ry _),?_⟩
    refine⟨fun h=>(by cases h),(ai _ _).2 ⟨⟨[],[_],[],[],[],[]⟩,rfl,af,rfl,?_⟩⟩
    exact fin _ _ _ (hb' _) rfl hφ
  rw[if_neg c20] at hφ
  rw[ah,if_neg (by simpa[go_sem] using c20),ae]
  by_cases c4:x.k=4
  · rw[if_pos c4] at hφ
    rw[ah,if_pos (by simpa[go_sem] using c4)]
    rw[ae,ag,if_pos (by rfl),s_ctLFun]
    refine⟨x,sl,l,rfl,R,hl,hc,?_⟩
    refine⟨fun h=>(by cases h),(ai _ _).2 ⟨⟨[],[_],[],[],[],[]⟩,rfl,af,rfl,?_⟩⟩
    exact fin _ _ _ (fun _ _ h=>h) rfl hφ
  rw[if_neg c4] at hφ
  rw[ah,if_neg (by simpa[go_sem] using c4),ae]
  by_cases c6:x.k=6
  · rw[if_pos c6] at hφ
    rw[ah,if_pos (by simpa[go_sem] using c6)]
    rw[ae,ag,if_pos (by rfl),s_ctBtw]
    refine⟨7,13,rfl,fun p q k hk h1 h2=>?_⟩
    refine⟨fun h=>(by cases h),(ai _ _).2 ⟨⟨[],[],[],[_],[],[]⟩,rfl,by intro u hu;simp at hu;subst hu;rfl,rfl,?_⟩⟩
    rw[ae,ag,if_pos (by rfl),s_ctLAll]
    refine⟨x,sl,l,_,_,rfl,R.le hk,hl,Zf h1 h2,?_⟩
    refine⟨fun h=>(by cases h),(ai _ _).2 ⟨⟨[],[_],[],[],[],[]⟩,rfl,af,rfl,?_⟩⟩
    exact fin _ _ _ hk rfl hφ
  rw[if_neg c6] at hφ
  rw[ah,if_neg (by simpa[go_sem] using c6),ae]
  by_cases c7:x.k=7
  · rw[if_pos c7] at hφ
    rw[ah,if_pos (by simpa[go_sem] using c7)]
    rw[ae,ag,if_pos (by rfl),s_ctLStat]
    refine⟨x,sl,l,rfl,R,hl,?_⟩
    refine⟨fun h=>(by cases h),(ai _ _).2 ⟨⟨[],[_],[],[],[],[]⟩,rfl,af,rfl,?_⟩⟩
    exact fin _ _ _ (fun _ _ h=>h) rfl hφ
  rw[if_neg c7] at hφ
  rw[ah,if_neg (by simpa[go_sem] using c7),ae]
  by_cases c8:x.k=8
  · rw[if_pos c8] at hφ
    rw[ah,if_pos (by simpa[go_sem] using c8)]
    rw[ae,ag,if_pos (by rfl),s_ctLStat]
    refine⟨x,sl,l,rfl,R,hl,?_⟩
    refine⟨fun h=>(by cases h),(ai _ _).2 ⟨⟨[],[_],[],[],[],[]⟩,rfl,af,rfl,?_⟩⟩
    exact fin _ _ _ (fun _ _ h=>h) rfl hφ
  rw[if_neg c8] at hφ
  rw[ah,if_neg (by simpa[go_sem] using c8),ae]
  by_cases c9:x.k=9
  · rw[if_pos c9] at hφ
    rw[ah,if_pos (by simpa[go_sem] using c9)]
    rw[ae,ag,if_pos (by rfl),s_ctLStat]
    refine⟨x,sl,l,rfl,R,hl,?_⟩
    refine⟨fun h=>(by cases h),(ai _ _).2 ⟨⟨[],[_],[],[],[],[]⟩,rfl,af,rfl,?_⟩⟩
    exact fin _ _ _ (fun _ _ h=>h) rfl hφ
  rw[if_neg c9] at hφ
  rw[ah,if_neg (by simpa[go_sem] using c9),ae]
  by_cases c10:x.k=10
  · rw[if_pos c10] at hφ
    rw[ah,if_pos (by simpa[go_sem] using c10)]
    rw[ae,ag,if_pos (by rfl),s_ctLStat]
    refine⟨x,sl,l,rfl,R,hl,?_⟩
    refine⟨fun h=>(by cases h),(ai _ _).2 ⟨⟨[],[_],[],[],[],[]⟩,rfl,af,rfl,?_⟩⟩
    exact fin _ _ _ (fun _ _ h=>h) rfl hφ
  rw[if_neg c10] at hφ
  rw[ah,if_neg (by simpa[go_sem] using c10),ae]
  by_cases c11:x.k=11
  · rw[if_pos c11] at hφ
    rw[ah,if_pos (by simpa[go_sem] using c11)]
    rw[ae,ag,if_pos (by rfl),s_ctLStat]
    refine⟨x,sl,l,rfl,R,hl,?_⟩
    refine⟨fun h=>(by cases h),(ai _ _).2 ⟨⟨[],[_],[],[],[],[]⟩,rfl,af,rfl,?_⟩⟩
    exact fin _ _ _ (fun _ _ h=>h) rfl hφ
  rw[if_neg c11] at hφ
  rw[ah,if_neg (by simpa[go_sem] using c11),ae]
  by_cases c12:x.k=12
  · rw[if_pos c12] at hφ
    rw[ah,if_pos (by simpa[go_sem] using c12)]
    rw[ae,ag,if_pos (by rfl),s_ctLStat]
    refine⟨x,sl,l,rfl,R,hl,?_⟩
    refine⟨fun h=>(by cases h),(ai _ _).2 ⟨⟨[],[_],[],[],[],[]⟩,rfl,af,rfl,?_⟩⟩
    exact fin _ _ _ (fun _ _ h=>h) rfl hφ
  rw[if_neg c12] at hφ
  rw[ah,if_neg (by simpa[go_sem] using c12),ae]
  by_cases c13:x.k=13
  · rw[if_pos c13] at hφ
    rw[ah,if_pos (by simpa[go_sem] using c13)]
    rw[ae,ag,if_pos (by rfl),s_ctLStat]
    refine⟨x,sl,l,rfl,R,hl,?_⟩
    refine⟨fun h=>(by cases h),(ai _ _).2 ⟨⟨[],[_],[],[],[],[]⟩,rfl,af,rfl,?_⟩⟩
    exact fin _ _ _ (fun _ _ h=>h) rfl hφ
  rw[if_neg c13] at hφ
  rw[ah,if_neg (by simpa[go_sem] using c13),ae]
  by_cases c27:x.k=27
  · rw[if_pos c27] at hφ
    rw[ah,if_pos (by simpa[go_sem] using c27)]
    rw[ae,ag,if_pos (by rfl),s_ctLAll]
    refine⟨x,sl,l,_,_,rfl,R,hl,eX _,?_⟩
    refine⟨fun h=>(by cases h),(ai _ _).2 ⟨⟨[],[_],[],[],[],[]⟩,rfl,af,rfl,?_⟩⟩
    exact fin _ _ _ (fun _ _ h=>h) rfl hφ
  rw[if_neg c27] at hφ
  rw[ah,if_neg (by simpa[go_sem] using c27),ae]
  by_cases c28:x.k=28
  · rw[if_pos c28] at hφ
    rw[ah,if_pos (by simpa[go_sem] using c28)]
    rw[ae,aT]
    intro b hb
    have hb':=hset hb
    rw[ae,ag,if_pos (by rfl),s_ctLRow]
    refine⟨x,sl,l,_,_,rfl,R.le (hb' _),hl,vJ (au _ _ _) (eX _) (eX _),?_⟩
    refine⟨fun h=>(by cases h),(ai _ _).2 ⟨⟨[],[_],[],[],[],[]⟩,rfl,af,rfl,?_⟩⟩
    exact fin _ _ _ (hb' _) rfl hφ
  rw[if_neg c28] at hφ
  rw[ah,if_neg (by simpa[go_sem] using c28),ae]
  by_cases c31:x.k=31
  · rw[if_pos c31] at hφ
    rw[ah,if_pos (by simpa[go_sem] using c31)]
    rw[ae,aT]
    intro b hb
    have hb':=hset hb
    rw[ae,ag,if_pos (by rfl),s_ctLRow]
    refine⟨x,sl,l,_,_,rfl,R.le (hb' _),hl,vJ (au _ _ _) (eX _) (eX _),?_⟩
    refine⟨fun h=>(by cases h),(ai _ _).2 ⟨⟨[],[_],[],[],[],[]⟩,rfl,af,rfl,?_⟩⟩
    exact fin _ _ _ (hb' _) rfl hφ
  rw[if_neg c31] at hφ
  rw[ah,if_neg (by simpa[go_sem] using c31),ae]
  by_cases c29:x.k=29
  · rw[if_pos c29] at hφ
    rw[ah,if_pos (by simpa[go_sem] using c29)]
    rw[ae,aT]
    intro b hb
    have hb':=hset hb
    rw[ae,ag,if_pos (by rfl),s_ctLRow]
    refine⟨x,sl,l,_,_,rfl,R.le (hb' _),hl,rC (au _ _ _) (eX _),?_⟩
    refine⟨fun h=>(by cases h),(ai _ _).2 ⟨⟨[],[_],[],[],[],[]⟩,rfl,af,rfl,?_⟩⟩
    exact fin _ _ _ (hb' _) rfl hφ
  rw[if_neg c29] at hφ
  rw[ah,if_neg (by simpa[go_sem] using c29),ae]
  by_cases c30:x.k=30
  · rw[if_pos c30] at hφ
    rw[ah,if_pos (by simpa[go_sem] using c30)]
    rw[ae,aT]
    intro b hb
    have hb':=hset hb
    rw[ae,ag,if_pos (by rfl),s_ctLRow]
    refine⟨x,sl,l,_,_,rfl,R.le (hb' _),hl,rC (au _ _ _) (eX _),?_⟩
    refine⟨fun h=>(by cases h),(ai _ _).2 ⟨⟨[],[_],[],[],[],[]⟩,rfl,af,rfl,?_⟩⟩
    exact fin _ _ _ (hb' _) rfl hφ
  rw[if_neg c30] at hφ
  rw[ah,if_neg (by simpa[go_sem] using c30),ae]
  by_cases c32:x.k=32
  · rw[if_pos c32] at hφ
    rw[ah,if_pos (by simpa[go_sem] using c32)]
    rw[ae,aT]
    intro b hb
    have hb':=hset hb
    rw[ae,ag,if_pos (by rfl),s_ctTof]
    refine⟨_,rfl,fun pb kb Tb hkb hpb=>?_⟩
    refine⟨fun h=>(by cases h),(ai _ _).2 ⟨⟨[],[],[],[_],[],[]⟩,rfl,by intro u hu;simp at hu;subst hu;rfl,rfl,?_⟩⟩
    have hkkb:=dP.trans (hb' _) hkb
    have hrob:Rows kb ⟨some (b,0),1,1⟩ (OG [19]) 1:=nN (hkb _ _ (au _ _ _)) rfl
    have hwb:=ru hpb hrob (by decide)
    rw[ae,aT]
    intro c hc2
    have hc':=hset hc2
    rw[ae,ag,if_pos (by rfl),s_ctLRow]
    refine⟨x,sl,l,_,_,rfl,R.le (dP.trans hkkb (hc' _)),hl,rC (au _ _ _) (hwb.le (hc' _)),?_⟩
    refine⟨fun h=>(by cases h),(ai _ _).2 ⟨⟨[],[_],[],[],[],[]⟩,rfl,af,rfl,?_⟩⟩
    cases hm:rowB [wO [19]] l with
    | true=>
      rw[hm] at hφ
      rw[ae,ah,if_pos (by simp[go_sem])]
      exact fin _ _ _ (dP.trans hkkb (hc' _)) rfl hφ
    | false=>
      rw[hm,Bool.false_or] at hφ
      rw[ae,ah,if_neg (by simp[go_sem]),ae,aT]
      intro d hd
      have hd':=hset hd
      rw[ae,ag,if_pos (by rfl),s_ctTof]
      refine⟨_,rfl,fun pd kd Td hkd hpd=>?_⟩
      refine⟨fun h=>(by cases h),(ai _ _).2 ⟨⟨[],[],[],[_],[],[]⟩,rfl,by intro u hu;simp at hu;subst hu;rfl,rfl,?_⟩⟩
      have hkkd:=dP.trans (dP.trans (dP.trans hkkb (hc' _)) (hd' _)) hkd
      have hrod:Rows kd ⟨some (d,0),1,1⟩ (OG [20]) 1:=nN (hkd _ _ (au _ _ _)) rfl
      have hwd:=ru hpd hrod (by decide)
      rw[ae,aT]
      intro e he
      have he':=hset he
      rw[ae,ag,if_pos (by rfl),s_ctLRow]
      refine⟨x,sl,l,_,_,rfl,R.le (dP.trans hkkd (he' _)),hl,vJ (au _ _ _) (hwd.le (he' _)) (eX _),?_⟩
      refine⟨fun h=>(by cases h),(ai _ _).2 ⟨⟨[],[_],[],[],[],[]⟩,rfl,af,rfl,?_⟩⟩
      exact fin _ _ _ (dP.trans hkkd (he' _)) rfl hφ
  rw[if_neg c32] at hφ
  rw[ah,if_neg (by simpa[go_sem] using c32),ae]
  by_cases c14:x.k=14
  · rw[if_pos c14] at hφ
    rw[ah,if_pos (by simpa[go_sem] using c14)]
    rw[ae,ag,if_pos (by rfl),s_ctLRow]
    refine⟨x,sl,l,_,_,rfl,R,hl,gJ _,?_⟩
    refine⟨fun h=>(by cases h),(ai _ _).2 ⟨⟨[],[_],[],[],[],[]⟩,rfl,af,rfl,?_⟩⟩
    exact fin _ _ _ (fun _ _ h=>h) rfl hφ
  rw[if_neg c14] at hφ
  rw[ah,if_neg (by simpa[go_sem] using c14),ae]
  by_cases c15:x.k=15
  · rw[if_pos c15] at hφ
    rw[ah,if_pos (by simpa[go_sem] using c15)]
    rw[ae,ag,if_pos (by rfl),s_ctLRow]
    refine⟨x,sl,l,_,_,rfl,R,hl,gJ _,?_⟩
    refine⟨fun h=>(by cases h),(ai _ _).2 ⟨⟨[],[_],[],[],[],[]⟩,rfl,af,rfl,?_⟩⟩
    exact fin _ _ _ (fun _ _ h=>h) rfl hφ
  rw[if_neg c15] at hφ
  rw[ah,if_neg (by simpa[go_sem] using c15),ae]
  by_cases c16:x.k=16
  · rw[if_pos c16] at hφ
    rw[ah,if_pos (by simpa[go_sem] using c16)]
    rw[ae,ag,if_pos (by rfl),s_ctLRow]
    refine⟨x,sl,l,_,_,rfl,R,hl,gJ _,?_⟩
    refine⟨fun h=>(by cases h),(ai _ _).2 ⟨⟨[],[_],[],[],[],[]⟩,rfl,af,rfl,?_⟩⟩
    exact fin _ _ _ (fun _ _ h=>h) rfl hφ
  rw[if_neg c16] at hφ
  rw[ah,if_neg (by simpa[go_sem] using c16),ae]
  by_cases c17:x.k=17
  · rw[if_pos c17] at hφ
    rw[ah,if_pos (by simpa[go_sem] using c17)]
    rw[ae,ag,if_pos (by rfl),s_ctLRow]
    refine⟨x,sl,l,_,_,rfl,R,hl,gJ _,?_⟩
    refine⟨fun h=>(by cases h),(ai _ _).2 ⟨⟨[],[_],[],[],[],[]⟩,rfl,af,rfl,?_⟩⟩
    exact fin _ _ _ (fun _ _ h=>h) rfl hφ
  rw[if_neg c17] at hφ
  rw[ah,if_neg (by simpa[go_sem] using c17),ae]
  by_cases c18:x.k=18
  · rw[if_pos c18] at hφ
    rw[ah,if_pos (by simpa[go_sem] using c18)]
    rw[ae,ag,if_pos (by rfl),s_ctLRow]
    refine⟨x,sl,l,_,_,rfl,R,hl,gJ _,?_⟩
    refine⟨fun h=>(by cases h),(ai _ _).2 ⟨⟨[],[_],[],[],[],[]⟩,rfl,af,rfl,?_⟩⟩
    exact fin _ _ _ (fun _ _ h=>h) rfl hφ
  rw[if_neg c18] at hφ
  rw[ah,if_neg (by simpa[go_sem] using c18),ae]
  by_cases c19:x.k=19
  · rw[if_pos c19] at hφ
    rw[ah,if_pos (by simpa[go_sem] using c19)]
    rw[ae,ag,if_pos (by rfl),s_ctLRow]
    refine⟨x,sl,l,_,_,rfl,R,hl,gJ _,?_⟩
    refine⟨fun h=>(by cases h),(ai _ _).2 ⟨⟨[],[_],[],[],[],[]⟩,rfl,af,rfl,?_⟩⟩
    exact fin _ _ _ (fun _ _ h=>h) rfl hφ
  rw[if_neg c19] at hφ
  rw[ah,if_neg (by simpa[go_sem] using c19),ae]
  by_cases c21:x.k=21
  · rw[if_pos c21] at hφ
    rw[ah,if_pos (by simpa[go_sem] using c21)]
    rw[ae,ag,if_pos (by rfl),s_ctLRow]
    refine⟨x,sl,l,_,_,rfl,R,hl,gJ _,?_⟩
    refine⟨fun h=>(by cases h),(ai _ _).2 ⟨⟨[],[_],[],[],[],[]⟩,rfl,af,rfl,?_⟩⟩
    exact fin _ _ _ (fun _ _ h=>h) rfl hφ
  rw[if_neg c21] at hφ
  rw[ah,if_neg (by simpa[go_sem] using c21),ae]
  by_cases c22:x.k=22
  · rw[if_pos c22] at hφ
    rw[ah,if_pos (by simpa[go_sem] using c22)]
    rw[ae,ag,if_pos (by rfl),s_ctLRow]
    refine⟨x,sl,l,_,_,rfl,R,hl,gJ _,?_⟩
    refine⟨fun h=>(by cases h),(ai _ _).2 ⟨⟨[],[_],[],[],[],[]⟩,rfl,af,rfl,?_⟩⟩
    exact fin _ _ _ (fun _ _ h=>h) rfl hφ
  rw[if_neg c22] at hφ
  rw[ah,if_neg (by simpa[go_sem] using c22),ae]
  by_cases c23:x.k=23
  · rw[if_pos c23] at hφ
    rw[ah,if_pos (by simpa[go_sem] using c23)]
    rw[ae,ag,if_pos (by rfl),s_ctLRow]
    refine⟨x,sl,l,_,_,rfl,R,hl,gJ _,?_⟩
    refine⟨fun h=>(by cases h),(ai _ _).2 ⟨⟨[],[_],[],[],[],[]⟩,rfl,af,rfl,?_⟩⟩
    exact fin _ _ _ (fun _ _ h=>h) rfl hφ
  rw[if_neg c23] at hφ
  rw[ah,if_neg (by simpa[go_sem] using c23),ae]
  by_cases c24:x.k=24
  · rw[if_pos c24] at hφ
    rw[ah,if_pos (by simpa[go_sem] using c24)]
    rw[ae,ag,if_pos (by rfl),s_ctLRow]
    refine⟨x,sl,l,_,_,rfl,R,hl,gJ _,?_⟩
    refine⟨fun h=>(by cases h),(ai _ _).2 ⟨⟨[],[_],[],[],[],[]⟩,rfl,af,rfl,?_⟩⟩
    exact fin _ _ _ (fun _ _ h=>h) rfl hφ
  rw[if_neg c24] at hφ
  rw[ah,if_neg (by simpa[go_sem] using c24),ae]
  by_cases c25:x.k=25
  · rw[if_pos c25] at hφ
    rw[ah,if_pos (by simpa[go_sem] using c25)]
    rw[ae,ag,if_pos (by rfl),s_ctLRow]
    refine⟨x,sl,l,_,_,rfl,R,hl,gJ _,?_⟩
    refine⟨fun h=>(by cases h),(ai _ _).2 ⟨⟨[],[_],[],[],[],[]⟩,rfl,af,rfl,?_⟩⟩
    exact fin _ _ _ (fun _ _ h=>h) rfl hφ
  rw[if_neg c25] at hφ
  rw[ah,if_neg (by simpa[go_sem] using c25),ae]
  by_cases c26:x.k=26
  · rw[if_pos c26] at hφ
    rw[ah,if_pos (by simpa[go_sem] using c26)]
    rw[ae,ag,if_pos (by rfl),s_ctLRow]
    refine⟨x,sl,l,_,_,rfl,R,hl,gJ _,?_⟩
    refine⟨fun h=>(by cases h),(ai _ _).2 ⟨⟨[],[_],[],[],[],[]⟩,rfl,af,rfl,?_⟩⟩
    exact fin _ _ _ (fun _ _ h=>h) rfl hφ
  rw[if_neg c26] at hφ
  rw[ah,if_neg (by simpa[go_sem] using c26),ae]
  rw[← ae]
  exact fin _ _ _ (fun _ _ h=>h) rfl hφ
end Go.Proofs.YtllbpdllkkcajaaGreatDoor
namespace Go.Proofs.YtllbpdllkkcajaaGreatDoor
open Go.RowKit
theorem aar {i j:Int}:∀ {st:List Int},(∀ e∈st,j≤e)→i<j→kL i st=st
 | [],_,_=>rfl
 | e::st,h,hij=>by
   have:=h e (by simp)
   rw[kL,if_neg (by omega)]
theorem CZ {i:Int} {e:Int}:∀ {st:List Int},e∈kL i st→e∈st
 | [],h=>h
 | a::st,h=>by
   rw[kL] at h
   split at h
   · exact List.mem_cons_of_mem _ (CZ h)
   · exact h
theorem LY {n i:Int} {st:List Int} {x:Ng} {l:List Ng} (hz:¬ (x.z<0∨n - 1 - i<x.z)) (h:∀ e∈kL i st,i+1+x.z≤e):iD n i st (x::l)=iD n (i+1) ((i+1+x.z)::kL i st) l:=by
 rw[iD,if_neg hz]
 cases hp:kL i st with
 | nil=>rfl
 | cons e st'=>
   have:=h e (by rw[hp];simp)
   simp only
   rw[if_neg (by omega)]
theorem qR (n:Int):∀ (m:Nat) (ts:List Tr),Tr.ns ts≤m→∀ (i:Int) (st:List Int) (rest:List Ng),(∀ e∈kL i st,i+Tr.ns ts≤e)→i+Tr.ns ts≤n→iD n i st (Tr.zT ts++rest)=iD n (i+Tr.ns ts) (kL i st) rest
 | _,[],_,i,st,rest,_,_=>by
   rw[bg]
   simp only[Tr.zT,Tr.jc,List.map_nil,List.nil_append,Int.natCast_zero,Int.add_zero]
   rw[kM]
 | 0,t::ts,hm,i,st,rest,_,_=>by rw[aA,uA] at hm;omega
 | m+1,t::ts,hm,i,st,rest,hst,hn=>by
   obtain⟨k,l,c,nn,x,ks⟩:=t
   have hnd:(Tr.nd k l c nn x ks).n=Tr.ns ks+1:=by rw[uA,Tr.sz,qZ]
   rw[aA,hnd] at hm hst hn⊢
   rw[kC,wH,List.cons_append,List.cons_append,List.append_assoc,LY (by simp only;omega) (fun e he=>by have:=hst e he;simp only;omega)]
   simp only
   generalize hq:kL i st=q at *
   have hmem:∀ e∈kL (i+1) ((i+1+(Tr.ns ks:Int))::q),i+1+(Tr.ns ks:Int)≤e:=fun e he=>by
    rcases List.mem_cons.1 (CZ he) with rfl | h
    · omega
    · have:=hst e h;omega
   rw[qR n m ks (by omega) (i+1) _ _ hmem (by omega)]
   have hpp:kL (i+1+(Tr.ns ks:Int)) (kL (i+1) ((i+1+(Tr.ns ks:Int))::q))=kL (i+1+(Tr.ns ks:Int)) q:=by
    rw[kL]
    split
    · rename_i h
      have h0:(Tr.ns ks:Int)=0:=by omega
      rw[h0,Int.add_zero,uk]
    · rw[kL,if_pos rfl]
   rw[← kM,hpp,kM]
   rw[qR n m ts (by omega) (i+1+(Tr.ns ks:Int)) q rest (fun e he=>by have:=hst e (CZ he);omega) (by omega)]
   have hfin:kL (i+1+(Tr.ns ks:Int)+(Tr.ns ts:Int)) (kL (i+1+(Tr.ns ks:Int)) q)=kL (i+1+(Tr.ns ks:Int)+(Tr.ns ts:Int)) q:=by
    by_cases h0:Tr.ns ts=0
    · rw[h0]
      simp only[Int.natCast_zero,Int.add_zero]
      rw[uk]
    · rw[aar (j:=i+1+(Tr.ns ks:Int)+(Tr.ns ts:Int)) (st:=q) (fun e he=>by have:=hst e he;omega) (by omega)]
   rw[← kM,hfin,kM]
   congr 1
   omega
theorem zg (t:Tr):qU t.gs=true:=by
 have hl:=nK t
 have hF:=qR t.n t.n [t] (by rw[aA,bg];omega) 0 [] [] (by simp[kL]) (by rw[aA,bg];omega)
 rw[kC,show Tr.zT []=[] from rfl,List.append_nil,List.append_nil] at hF
 obtain⟨r,hr,hrl⟩:=wG t
 have hz:t.g.z=(t.gs.length:Int) - 1:=by
  rw[hl,uA]
  obtain⟨k,l,c,n,x,ks⟩:=t
  show ((Tr.ns ks:Nat):Int)=_
  rw[Tr.sz,qZ];omega
 have hR:qU t.gs=(decide (t.g.z=(t.gs.length:Int) - 1)&&iD t.gs.length 0 [] t.gs):=by
  rw[hr];rfl
 rw[hR,hl,hF]
 rw[hl] at hz
 rw[decide_eq_true hz,Bool.true_and]
 rfl
mutual
def Tr.subs:Tr→List Tr
 | .nd k l c n x ks=>.nd k l c n x ks::Tr.xg ks
def Tr.xg:List Tr→List Tr
 | []=>[]
 | t::ts=>t.subs++Tr.xg ts
end
def Tr.kl:Tr→List Tr
 | .nd _ _ _ _ _ ks=>ks
mutual
theorem YV:∀ t:Tr,t.subs.map Tr.g=t.gs
 | .nd k l c n x ks=>by rw[Tr.subs,List.map_cons,RS ks,wH];rfl
theorem RS:∀ ts:List Tr,(Tr.xg ts).map Tr.g=Tr.zT ts
 | []=>rfl
 | t::ts=>by rw[Tr.xg,List.map_append,YV t,RS ts,kC]
end
theorem wZ (t:Tr):t.subs.length=t.n:=by rw[← nK,← YV,List.length_map]
mutual
theorem RQ:∀ (t:Tr) {l:List Ng} {p:Nat},Ps l p t→∀ (i:Nat) (s:Tr),t.subs[i]? = some s→Ps l (p+i) s
 | .nd k l c n x ks,L,p,P,i,s,h=>by
   rw[Tr.subs] at h
   cases i with
   | zero=>simp at h;subst h;exact P
   | succ i=>
     rw[List.getElem?_cons_succ] at h
     have:=MI ks P.kids i s h
     rw[show p+(i+1)=p+1+i by omega]
     exact this
theorem MI:∀ (ts:List Tr) {l:List Ng} {p:Nat},Na l p ts→∀ (i:Nat) (s:Tr),(Tr.xg ts)[i]? = some s→Ps l (p+i) s
 | [],_,_,_,i,s,h=>by simp[Tr.xg] at h
 | t::ts,L,p,P,i,s,h=>by
   obtain⟨P1,P2⟩:=P.cons
   rw[Tr.xg] at h
   by_cases hi:i<t.subs.length
   · rw[List.getElem?_append_left hi] at h
     exact RQ t P1 i s h
   · rw[List.getElem?_append_right (by omega)] at h
     have:=MI ts P2 _ s h
     rw[wZ] at hi
     rw[show p+i=p+t.n+(i - t.subs.length) by rw[wZ];omega]
     exact this
end
def okI (i:Nat) (s:Tr):Bool:=if i=0 then (s.kl.map Tr.g).all (wO [2,4]) else fieldsB s.g&&fZ s.g.k s.g.n (s.kl.map Tr.g)
def CS:Nat→List Tr→Bool
 | _,[]=>true
 | i,s::r=>okI i s&&CS (i+1) r
def zD (t:Tr):Bool:=decide (t.g.k=1)&&fieldsB t.g&&CS 0 t.subs
end Go.Proofs.YtllbpdllkkcajaaGreatDoor
namespace Go.Proofs.YtllbpdllkkcajaaGreatDoor
open Go.RowKit
def Tok.p (t:Tok):Int×Int×List UInt8:=(t.k,t.n,t.x)
def La:Nat→List UInt8→Option (List (Int×Int×List UInt8))
 | 0,_=>none
 | m+1,u=>
   if u.drop (sk false u)=[] then some [(8,0,[])]
   else if (one (u.drop (sk false u)) 0).f=0 then (La m ((u.drop (sk false u)).drop (one (u.drop (sk false u)) 0).e)).map (((one (u.drop (sk false u)) 0).k,(one (u.drop (sk false u)) 0).n,(one (u.drop (sk false u)) 0).x)::·)
   else none
theorem Ik (p:Int→Bool) (s:List UInt8) (i j:Nat):rn p (s.drop i) j=rn p s (i+j):=by unfold rn;rw[List.drop_drop]
theorem MH (s:List UInt8) (i a b:Nat):sub (s.drop i) a b=sub s (i+a) (i+b):=by
 unfold sub
 rw[List.drop_take,List.drop_take,List.drop_drop]
 congr 1;omega
theorem aaj (s:List UInt8) (i:Nat):(nm (s.drop i) 0).1=(nm s i).1∧(nm (s.drop i) 0).2.1=(nm s i).2.1∧(nm (s.drop i) 0).2.2.1=(nm s i).2.2.1∧((nm s i).1=0→(nm s i).2.2.2=i+(nm (s.drop i) 0).2.2.2):=by
 have e1:rn kY (s.drop i) 0=rn kY s i:=by rw[Ik];rfl
 have e2:rn inB (s.drop i) (rn kY s i)=rn inB s (i+rn kY s i):=Ik ..
 have e3:bt (s.drop i) (rn kY s i)=bt s (i+rn kY s i):=oJ ..
 have e4:sub (s.drop i) 0 (rn kY s i)=sub s i (i+rn kY s i):=MH ..
 unfold nm
 rw[e1,Nat.zero_add,e2,e3,e4]
 unfold pJ
 split
 · split<;>simp
 · split
   · split<;>simp
     omega
   · simp
theorem Xt (s:List UInt8) (i:Nat):(one (s.drop i) 0).f=(one s i).f∧(one (s.drop i) 0).k=(one s i).k∧(one (s.drop i) 0).x=(one s i).x∧(one (s.drop i) 0).n=(one s i).n∧((one s i).f=0→(one s i).e=i+(one (s.drop i) 0).e):=by
 have e0:bt (s.drop i) 0=bt s i:=oJ ..
 have e1:rn inB (s.drop i) 0=rn inB s i:=by rw[Ik];rfl
 have e2:sub (s.drop i) 0 (rn inB s i)=sub s i (i+rn inB s i):=MH ..
 obtain⟨n1,n2,n3,n4⟩:=aaj s i
 unfold one
 rw[e0,e1,Nat.zero_add,e2,n1,n2,n3,List.drop_zero]
 split
 · simp
 · split
   · exact⟨rfl,rfl,rfl,rfl,n4⟩
   · split
     · cases C9 (s.drop i) with
       | none=>simp
       | some r=>simp
     · split<;>simp
theorem Xf:∀ (m:Nat) {s:List UInt8} {i:Nat} {p:Int×Int} {acc:List Tok} {T:List (Int×Int×List UInt8)},i≤s.length→La m (s.drop i)=some T→∃ L,Ed m s i p acc=((0,0,0),acc++L)∧L.map Tok.p=T
 | 0,_,_,_,_,_,_,h=>by cases h
 | m+1,s,i,p,acc,T,hi,h=>by
   rw[La] at h
   have es:sk false (s.drop i)=kH false s i:=rfl
   rw[es,List.drop_drop] at h
   have hle:=PN (s:=s) (i:=i) false hi
   rw[Ed]
   split at h
   · rename_i h1
     have:s.length≤i+kH false s i:=by have:=List.drop_eq_nil_iff.1 h1;exact this
     rw[if_pos this]
     cases h
     exact⟨_,rfl,rfl⟩
   · rename_i h1
     have hlt:¬ s.length≤i+kH false s i:=fun hh=>h1 (List.drop_eq_nil_of_le hh)
     rw[if_neg hlt]
     obtain⟨o1,o2,o3,o4,o5⟩:=Xt s (i+kH false s i)
     rw[o1] at h
     split at h
     · rename_i hf
       rw[if_pos hf]
       simp only[Option.map_eq_some_iff] at h
       obtain⟨T',hT,rfl⟩:=h
       have o5:=o5 hf
       rw[List.drop_drop,← o5] at hT
       have he:=(x8 (by omega) hf).2.1
       obtain⟨L,hL,hp⟩:=Xf m (p:=nH p (sub s i (one s (i+kH false s i)).e)) (acc:=acc++[⟨(one s (i+kH false s i)).k,(Go.Proofs.YtllbpdllkkcajaaGreatDoor.nH p (sub s i (i+kH false s i))).1,(Go.Proofs.YtllbpdllkkcajaaGreatDoor.nH p (sub s i (i+kH false s i))).2,(one s (i+kH false s i)).n,(one s (i+kH false s i)).x⟩]) he hT
       refine⟨⟨(one s (i+kH false s i)).k,(Go.Proofs.YtllbpdllkkcajaaGreatDoor.nH p (sub s i (i+kH false s i))).1,(Go.Proofs.YtllbpdllkkcajaaGreatDoor.nH p (sub s i (i+kH false s i))).2,(one s (i+kH false s i)).n,(one s (i+kH false s i)).x⟩::L,?_,?_⟩
       · rw[hL,List.append_assoc];rfl
       · rw[List.map_cons,hp,o2,o3,o4];rfl
     · cases h
def LX (u:List UInt8) (T:List (Int×Int×List UInt8)):Prop:=T.length≤u.length+1∧∀ m,T.length≤m→La m u=some T
theorem Xh {s:List UInt8} {T:List (Int×Int×List UInt8)} (h:LX s T):∃ L,bQ s=((0,0,0),L)∧L.map Tok.p=T:=by
 obtain⟨L,h1,h2⟩:=Xf (s.length+1) (s:=s) (i:=0) (p:=(1,1)) (acc:=[]) (Nat.zero_le _) (h.2 _ h.1)
 exact⟨L,by unfold bQ;rw[h1];rfl,h2⟩
theorem Xi:LX [] [(8,0,[])]:=⟨by decide,fun m hm=>by
 cases m with
 | zero=>simp at hm
 | succ m=>rfl⟩
theorem dA {u:List UInt8} {T:List (Int×Int×List UInt8)} (c:UInt8) (hc:c=32∨c=9∨c=10) (h:LX u T):LX (c::u) T:=by
 refine⟨by have:=h.1;simp;omega,fun m hm=>?_⟩
 have:=h.2 m hm
 cases m with
 | zero=>exact this
 | succ m=>
   have e:sk false (c::u)=sk false u+1:=by
    rcases hc with rfl | rfl | rfl<;>rfl
   rw[La,e,List.drop_succ_cons]
   rw[La] at this
   exact this
theorem BZ {x u:List UInt8} {T:List (Int×Int×List UInt8)} {k n:Int} {t:List UInt8} (hne:x≠[]) (hs:sk false (x++u)=0) (ho:one (x++u) 0=⟨0,k,t,n,x.length⟩) (h:LX u T):LX (x++u) ((k,n,t)::T):=by
 have hx:0<x.length:=List.length_pos_iff.2 hne
 refine⟨by have:=h.1;simp;omega,fun m hm=>?_⟩
 rw[List.length_cons] at hm
 obtain⟨m',rfl⟩:∃ m',m=m'+1:=⟨m - 1,by omega⟩
 rw[La,hs,List.drop_zero,if_neg (by simp[hne]),ho,if_pos rfl]
 show (La m' ((x++u).drop x.length)).map _=_
 rw[List.drop_left,h.2 m' (by omega)]
 rfl
def D7 (u:List UInt8):Prop:=∀ c r,u=c::r→inB c.toNat=false
theorem Y7 {p:UInt8→Bool}:∀ {x u:List UInt8},(∀ c∈x,p c=true)→(∀ c r,u=c::r→p c=false)→(x++u).takeWhile p=x
 | [],[],_,_=>rfl
 | [],c::r,_,h=>by rw[List.nil_append,List.takeWhile_cons,h c r rfl];rfl
 | a::x,u,h,h2=>by
   rw[List.cons_append,List.takeWhile_cons,h a (by simp)]
   simp only[if_true]
   rw[Y7 (fun c hc=>h c (by simp[hc])) h2]
theorem Pz {p:Int→Bool} {x u:List UInt8} (h1:∀ c∈x,p c.toNat=true) (h2:∀ c r,u=c::r→p c.toNat=false):rn p (x++u) 0=x.length:=by
 unfold rn
 rw[List.drop_zero,Y7 h1 h2]
theorem II (x u:List UInt8):sub (x++u) 0 x.length=x:=by unfold sub;rw[List.take_left,List.drop_zero]
theorem tK {x:List UInt8} (u:List UInt8) (h:x≠[]):bt (x++u) 0=bt x 0:=yK x u (List.length_pos_iff.2 h)
theorem wV {x:List UInt8} (h:YJ (bt x 0) (RJ (bt x 0) false)=false) (hne:x≠[]) (u:List UInt8):sk false (x++u)=0:=by
 cases x with
 | nil=>exact absurd rfl hne
 | cons c x=>
   rw[iG] at h
   rw[List.cons_append,sk,h];rfl
theorem YK {x:List UInt8} (h:lD (bt x 0)≠0):YJ (bt x 0) (RJ (bt x 0) false)=false:=by
 unfold lD at h
 unfold YJ RJ
 generalize bt x 0=b at *
 have:b≠35∧b≠32∧b≠9∧b≠13∧b≠10:=by
  refine⟨?_,?_,?_,?_,?_⟩<;>(intro e;subst e;exact absurd rfl h)
 simp[this]
theorem adz {x:List UInt8} (h:lD (bt x 0)≠0):x≠[]:=fun e=>by subst e;exact h rfl
theorem Hy {x u:List UInt8} {T:List (Int×Int×List UInt8)} (hk:lD (bt x 0)=1∨lD (bt x 0)=2) (hx:∀ c∈x,inB c.toNat=true) (hu:D7 u) (h:LX u T):LX (x++u) ((qj (bt x 0) x,0,x)::T):=by
 have h0:lD (bt x 0)≠0:=by omega
 have hne:=adz h0
 refine BZ hne (wV (YK h0) hne u) ?_ h
 unfold one
 rw[tK u hne,if_pos hk,Nat.zero_add,Pz hx hu,II]
theorem ady {b:Int} (h:inB b=false):lD b≠1∧lD b≠2∧lD b≠3:=by
 unfold inB at h
 rw[decide_eq_false_iff_not] at h
 omega
theorem ab8 {u:List UInt8} (hu:D7 u):∀ c r,u=c::r→kY c.toNat=false:=fun c r e=>by
 have:=ady (hu c r e)
 unfold kY;rw[decide_eq_false_iff_not];exact this.2.2
theorem aco {d u:List UInt8} {T:List (Int×Int×List UInt8)} {n:Int} (hne:d≠[]) (hd:∀ c∈d,kY c.toNat=true) (hv:(pv (strip d)).2=0) (hn:(pv (strip d)).1=n) (hmax:n≤9223372036854775807) (hu:D7 u) (h:LX u T):LX (d++u) ((3,n,[])::T):=by
 have h3:lD (bt d 0)=3:=by
  cases d with
  | nil=>exact absurd rfl hne
  | cons c d=>have:=hd c (by simp);rw[iG];simpa[kY] using this
 refine BZ hne (wV (YK (by omega)) hne u) ?_ h
 unfold one nm
 rw[tK u hne,if_neg (by omega),if_pos h3,Nat.zero_add,Pz hd (ab8 hu)]
 have e0:rn inB (d++u) d.length=0:=by
  unfold rn
  rw[List.drop_left]
  cases u with
  | nil=>rfl
  | cons c u=>rw[List.takeWhile_cons,hu c u rfl];rfl
 rw[e0,if_pos rfl,II]
 unfold pJ
 rw[if_pos ⟨hv,by omega⟩,hn]
theorem aad {d u:List UInt8} {T:List (Int×Int×List UInt8)} {n:Int} (hne:d≠[]) (hd:∀ c∈d,kY c.toNat=true) (hv:(pv (strip d)).2=0) (hn:(pv (strip d)).1=n) (hmax:n≤8388607) (hu:D7 u) (h:LX u T):LX (d++[105]++u) ((4,n,[])::T):=by
 have h3:lD (bt d 0)=3:=by
  cases d with
  | nil=>exact absurd rfl hne
  | cons c d=>have:=hd c (by simp);rw[iG];simpa[kY] using this
 have hb:bt (d++[105]) 0=bt d 0:=tK _ hne
 refine BZ (by simp) (wV (by rw[hb];exact YK (by omega)) (by simp) u) ?_ h
 unfold one nm
 have er:rn kY (d++[105]++u) 0=d.length:=by
  rw[List.append_assoc]
  exact Pz hd (fun c r e=>by cases e;decide)
 rw[tK u (by simp),hb,if_neg (by omega),if_pos h3,Nat.zero_add,er]
 have e0:rn inB (d++[105]++u) d.length=1:=by
  unfold rn
  rw[List.append_assoc,List.drop_left,List.cons_append,List.nil_append,List.takeWhile_cons,show inB ((105:UInt8).toNat:Int)=true by decide]
  cases u with
  | nil=>rfl
  | cons c u=>rw[List.takeWhile_cons,hu c u rfl];rfl
 have e1:bt (d++[105]++u) d.length=105:=by
  have:=oJ (d++[105]++u) d.length 0
  rw[Nat.add_zero] at this
  rw[← this,List.append_assoc,List.drop_left];rfl
 have e2:sub (d++[105]++u) 0 d.length=d:=by rw[List.append_assoc];exact II _ _
 rw[e0,if_neg (by decide),e1,if_pos ⟨rfl,rfl⟩,e2]
 unfold pJ
 rw[if_pos ⟨hv,by omega⟩,hn,List.length_append]
 rfl
theorem Hz {x u:List UInt8} {T:List (Int×Int×List UInt8)} (hk:lD (bt x 0)=0) (h34:bt x 0≠34) (hb:YJ (bt x 0) (RJ (bt x 0) false)=false) (hne:x≠[]) (hs:sg (x++u)=x) (h:LX u T):LX (x++u) ((7,0,x)::T):=by
 refine BZ hne (wV hb hne u) ?_ h
 unfold one
 rw[tK u hne,if_neg (by omega),if_neg (by omega),if_neg h34,List.drop_zero,hs,if_neg hne,Nat.zero_add]
end Go.Proofs.YtllbpdllkkcajaaGreatDoor
namespace Go.Proofs.YtllbpdllkkcajaaGreatDoor
open Go.RowKit
theorem VU (m:Nat) (h:m<10):jP (dg m)=true∧(dg m).toNat=48+m:=by
 have:(dg m).toNat=48+m:=by simp[dg];omega
 refine⟨?_,this⟩
 simp[jP,this];omega
theorem VW (k:Nat):∀ (m:Nat) (t:List UInt8),0<k→m<10 ^ k→∃ d,dgo k m t=d++t∧d.all jP=true∧oq d=m∧d≠[]∧(m≠0→d.head?≠some 48)∧(m=0→d=[48]):=by
 induction k with
 | zero=>intro m t h;omega
 | succ k ih=>
   intro m t _ hm
   rw[dgo]
   by_cases h10:m<10
   · rw[if_pos h10]
     obtain⟨h1,h2⟩:=VU m h10
     refine⟨[dg m],rfl,by simp[h1],?_,by simp,fun h0=>?_,fun h0=>by subst h0;rfl⟩
     · rw[Gj,h2];simp[oq]
     · simp only[List.head?_cons,ne_eq,Option.some.injEq]
       intro e
       rw[e] at h2
       have:(48:UInt8).toNat=48:=rfl
       omega
   · rw[if_neg h10]
     have hk:0<k:=by
      cases k with
      | zero=>simp at hm;omega
      | succ k=>omega
     obtain⟨d,e1,e2,e3,e4,e5,e6⟩:=ih (m / 10) (dg (m % 10)::t) hk (by rw[Nat.pow_succ] at hm;omega)
     obtain⟨h1,h2⟩:=VU (m % 10) (by omega)
     refine⟨d++[dg (m % 10)],by rw[e1];simp,by rw[List.all_append,e2];simp[h1],?_,by simp,fun _=>?_,fun h0=>by omega⟩
     · rw[Gl,e3,h2];omega
     · have:=e5 (by omega)
       cases d with
       | nil=>exact absurd rfl e4
       | cons x d=>simpa using this
theorem rZ (m:Nat) (h:m≤9223372036854775808):(dec m).all jP=true∧oq (dec m)=m∧dec m≠[]∧(m≠0→(dec m).head?≠some 48)∧(m=0→dec m=[48]):=by
 obtain⟨d,e1,e2,e3,e4,e5,e6⟩:=VW 20 m [] (by omega) (by omega)
 rw[List.append_nil] at e1
 unfold dec
 rw[e1]
 exact⟨e2,e3,e4,e5,e6⟩
theorem Yu (m:Nat) (h:m≤9223372036854775807):strip (dec m)=dec m∧pv (dec m)=((m:Int),0):=by
 obtain⟨d1,d2,d3,d4,d5⟩:=rZ m (by omega)
 have hv:pU false (dec m)=((m:Int),0):=by
  unfold pU
  rw[if_pos d1,if_neg (by decide),if_pos (by omega),d2]
 generalize dec m=d at *
 cases d with
 | nil=>exact absurd rfl d3
 | cons c t=>
   have hc:jP c=true:=by simp only[List.all_cons,Bool.and_eq_true] at d1;exact d1.1
   have h45:¬ c=45:=by intro e;subst e;revert hc;decide
   have h48:¬ (c=48∧t≠[]):=by
    rintro⟨rfl,ht⟩
    by_cases hz:m=0
    · have:=d5 hz
      simp at this
      exact ht this
    · exact d4 hz rfl
   refine⟨?_,by simp only[pv,if_neg h45,if_neg h48];exact hv⟩
   cases t with
   | nil=>rfl
   | cons a t=>
     rw[strip,if_neg]
     intro e
     refine h48 ⟨?_,by simp⟩
     exact UInt8.toNat_inj.1 e
theorem BM {c:UInt8} (h:jP c=true):kY c.toNat=true:=by
 unfold jP at h
 simp only[Bool.and_eq_true,decide_eq_true_eq] at h
 unfold kY lD
 rw[decide_eq_true_eq]
 have:=c.toNat_lt
 rw[if_neg (by omega),if_neg (by omega),if_pos (by omega)]
theorem acp {n:Int} {u:List UInt8} {T:List (Int×Int×List UInt8)} (h0:0≤n) (h1:n≤9223372036854775807) (hu:D7 u) (h:LX u T):LX (txt n++u) ((3,n,[])::T):=by
 obtain⟨d1,d2,d3,_,_⟩:=rZ n.natAbs (by omega)
 obtain⟨p1,p2⟩:=Yu n.natAbs (by omega)
 unfold txt
 rw[if_neg (by omega)]
 exact aco d3 (fun c hc=>BM (List.all_eq_true.1 d1 c hc)) (by rw[p1,p2]) (by rw[p1,p2];simp;omega) (by omega) hu h
theorem aae {n:Int} {u:List UInt8} {T:List (Int×Int×List UInt8)} (h0:0≤n) (h1:n≤8388607) (hu:D7 u) (h:LX u T):LX (txt n++[105]++u) ((4,n,[])::T):=by
 obtain⟨d1,d2,d3,_,_⟩:=rZ n.natAbs (by omega)
 obtain⟨p1,p2⟩:=Yu n.natAbs (by omega)
 unfold txt
 rw[if_neg (by omega)]
 exact aad d3 (fun c hc=>BM (List.all_eq_true.1 d1 c hc)) (by rw[p1,p2]) (by rw[p1,p2];simp;omega) h1 hu h
theorem aaR (m:Nat) (pre:List UInt8) (c:UInt8) (post acc:List UInt8) (hp:post≠[]):rdA (m+1) (pre++(qb c++post)) pre.length acc=rdA m (pre++(qb c++post)) (pre.length+(qb c).length) (acc++[c]):=by
 have hbt:∀ j,bt (pre++(qb c++post)) (pre.length+j)=bt (qb c++post) j:=fun j=>by rw[← oJ,List.drop_left]
 have h0:=hbt 0
 rw[Nat.add_zero] at h0
 have hpl:0<post.length:=List.length_pos_iff.2 hp
 have hcl:=c.toNat_lt
 have hub:∀ n:Int,n=c.toNat→ub n=c:=fun n e=>by
  subst e;unfold ub;simp
 rw[rdA]
 simp only[h0,hbt,List.length_append]
 unfold qb
 have e34:(c=34)↔c.toNat=34:=⟨fun e=>by subst e;rfl,fun e=>UInt8.toNat_inj.1 e⟩
 have e92:(c=92)↔c.toNat=92:=⟨fun e=>by subst e;rfl,fun e=>UInt8.toNat_inj.1 e⟩
 have e10:(c=10)↔c.toNat=10:=⟨fun e=>by subst e;rfl,fun e=>UInt8.toNat_inj.1 e⟩
 have e9:(c=9)↔c.toNat=9:=⟨fun e=>by subst e;rfl,fun e=>UInt8.toNat_inj.1 e⟩
 by_cases c1:c=34∨c=92
 · rw[if_pos c1]
   have hv:(c.toNat:Int)=34∨(c.toNat:Int)=92:=by
    rcases c1 with h | h
    · left;rw[e34.1 h];rfl
    · right;rw[e92.1 h];rfl
   simp only[List.cons_append,List.nil_append,iG,vO,List.length_cons,List.length_nil]
   rw[show ((92:UInt8).toNat:Int)=92 from rfl]
   rw[if_neg (by omega),if_neg (by decide),if_neg (by decide),if_neg (by omega),if_pos hv,hub _ rfl]
 rw[if_neg c1]
 have n34:c.toNat≠34:=fun e=>c1 (.inl (e34.2 e))
 have n92:c.toNat≠92:=fun e=>c1 (.inr (e92.2 e))
 by_cases c2:c=10
 · subst c2
   simp only[if_true,List.cons_append,List.nil_append,iG,vO,List.length_cons,List.length_nil]
   rw[show ((92:UInt8).toNat:Int)=92 from rfl,show ((110:UInt8).toNat:Int)=110 from rfl]
   rw[if_neg (by omega),if_neg (by decide),if_neg (by decide),if_neg (by omega),if_neg (by decide),if_pos rfl]
 rw[if_neg c2]
 have n10:c.toNat≠10:=fun e=>c2 (e10.2 e)
 by_cases c3:c=9
 · subst c3
   simp only[if_true,List.cons_append,List.nil_append,iG,vO,List.length_cons,List.length_nil]
   rw[show ((92:UInt8).toNat:Int)=92 from rfl,show ((116:UInt8).toNat:Int)=116 from rfl]
   rw[if_neg (by omega),if_neg (by decide),if_neg (by decide),if_neg (by omega),if_neg (by decide),if_neg (by decide),if_pos rfl]
 rw[if_neg c3]
 by_cases c4:c.toNat<32∨126<c.toNat
 · rw[if_pos c4]
   have hxd:∀ n:Nat,n<16→((qb.hxd n).toNat:Int)=(if n<10 then 48+n else 87+n:Nat)∧hx ((qb.hxd n).toNat:Int)=n:=by
    intro n hn
    unfold qb.hxd
    split
    · rename_i h
      have:(UInt8.ofNat (48+n)).toNat=48+n:=by simp;omega
      rw[this]
      refine⟨rfl,?_⟩
      unfold hx;rw[if_pos (by omega)];omega
    · rename_i h
      have:(UInt8.ofNat (87+n)).toNat=87+n:=by simp;omega
      rw[this]
      refine⟨rfl,?_⟩
      unfold hx;rw[if_neg (by omega),if_pos (by omega)];omega
   obtain⟨_,x1⟩:=hxd (c.toNat / 16) (by omega)
   obtain⟨_,x2⟩:=hxd (c.toNat % 16) (by omega)
   have hbt2:=hbt 2
   have hbt3:=hbt 3
   simp only[List.cons_append,List.nil_append,iG,vO,List.length_cons,List.length_nil]
   rw[show ((92:UInt8).toNat:Int)=92 from rfl,show ((120:UInt8).toNat:Int)=120 from rfl,x1,x2]
   rw[if_neg (by omega),if_neg (by decide),if_neg (by decide),if_neg (by omega),if_neg (by decide),if_neg (by decide),if_neg (by decide),if_pos rfl,if_pos ⟨by omega,by omega,by omega⟩,hub _ (by omega)]
 · rw[if_neg c4]
   simp only[List.cons_append,List.nil_append,iG,List.length_cons,List.length_nil]
   rw[if_neg (by omega),if_neg (by omega),if_pos (by omega),hub _ rfl]
theorem LP:∀ (x:List UInt8) (m:Nat) (pre u acc:List UInt8),x.length<m→rdA m (pre++(x.flatMap qb++34::u)) pre.length acc=some (acc++x,pre.length+(x.flatMap qb).length+1)
 | [],m,pre,u,acc,hm=>by
   obtain⟨m',rfl⟩:∃ m',m=m'+1:=⟨m - 1,by omega⟩
   have hb:bt (pre++34::u) pre.length=34:=by
    have:=oJ (pre++34::u) pre.length 0
    rw[Nat.add_zero] at this
    rw[← this,List.drop_left];rfl
   rw[List.flatMap_nil,List.nil_append,rdA,hb,if_neg (by rw[List.length_append,List.length_cons];omega),if_pos rfl,List.append_nil]
   rfl
 | c::x,m,pre,u,acc,hm=>by
   obtain⟨m',rfl⟩:∃ m',m=m'+1:=⟨m - 1,by omega⟩
   rw[List.flatMap_cons,List.append_assoc,aaR m' pre c _ acc (by simp)]
   rw[← List.append_assoc,← List.length_append]
   rw[LP x m' (pre++qb c) u (acc++[c]) (by simp at hm;omega)]
   simp only[List.append_assoc,List.cons_append,List.nil_append,List.length_append]
   congr 2
   omega
theorem acO (c:UInt8):1≤(qb c).length:=by
 unfold qb
 split
 · simp
 · split
   · simp
   · split
     · simp
     · split<;>simp
theorem ace (x:List UInt8):x.length≤(x.flatMap qb).length:=by
 induction x with
 | nil=>simp
 | cons c x ih=>rw[List.flatMap_cons,List.length_append,List.length_cons];have:=acO c;omega
theorem aaS (x u:List UInt8):C9 (quo x++u)=some (x,(quo x).length):=by
 unfold C9 quo
 have e:(34::(x.flatMap qb++[34]))++u=[34]++(x.flatMap qb++34::u):=by simp
 rw[e,if_neg (by simp[bt])]
 have:=LP x (([34]++(x.flatMap qb++34::u)).length) [34] u [] (by have:=ace x;simp only[List.length_append,List.length_cons,List.length_nil];omega)
 rw[List.length_singleton] at this
 rw[this]
 simp
 omega
theorem acs {x u:List UInt8} {T:List (Int×Int×List UInt8)} (h:LX u T):LX (quo x++u) ((5,0,x)::T):=by
 have hb:bt (quo x) 0=34:=by unfold quo;rw[iG];rfl
 refine BZ (by unfold quo;simp) (wV (by rw[hb];decide) (by unfold quo;simp) u) ?_ h
 unfold one
 rw[tK u (by unfold quo;simp),hb,if_neg (by decide),if_neg (by decide),if_pos rfl,List.drop_zero,aaS]
 simp
theorem acV {c:UInt8} (hc:c∈([43,45,42,47,37,40,41,123,125,91,93,44,59,58,46]:List UInt8)) (u:List UInt8):sg ([c]++u)=[c]:=by
 simp only[List.mem_cons,List.not_mem_nil,or_false] at hc
 rcases hc with rfl | rfl | rfl | rfl | rfl | rfl | rfl | rfl | rfl | rfl | rfl | rfl | rfl | rfl | rfl<;>simp[sg,fA,List.isPrefixOf]
theorem acW {c:UInt8} (hc:c∈([60,62,33,61]:List UInt8)) {u:List UInt8} (hu:∀ r,u≠61::r):sg ([c]++u)=[c]:=by
 have h61:∀ v:List UInt8,([61]:List UInt8).isPrefixOf u=false:=fun _=>by
  cases u with
  | nil=>rfl
  | cons a u=>
    have:a≠61:=fun e=>hu u (by rw[e])
    simp[List.isPrefixOf,Ne.symm this]
 have h61:=h61 []
 simp only[List.mem_cons,List.not_mem_nil,or_false] at hc
 rcases hc with rfl | rfl | rfl | rfl<;>simp[sg,fA,List.isPrefixOf,h61]
theorem acU {x:List UInt8} (hx:x∈([[38,38],[124,124],[61,61],[33,61],[60,61],[62,61]]:List (List UInt8))) (u:List UInt8):sg (x++u)=x:=by
 simp only[List.mem_cons,List.not_mem_nil,or_false] at hx
 rcases hx with rfl | rfl | rfl | rfl | rfl | rfl<;>simp[sg,fA,List.isPrefixOf]
theorem dW {c:UInt8} (hc:c∈([43,45,42,47,37,40,41,123,125,91,93,44,59,58,46]:List UInt8)) {u:List UInt8} {T:List (Int×Int×List UInt8)} (h:LX u T):LX (c::u) ((7,0,[c])::T):=by
 have hh:∀ c:UInt8,c∈([43,45,42,47,37,40,41,123,125,91,93,44,59,58,46]:List UInt8)→lD (bt [c] 0)=0∧bt [c] 0≠34∧YJ (bt [c] 0) (RJ (bt [c] 0) false)=false:=by decide
 obtain⟨h1,h2,h3⟩:=hh c hc
 exact Hz h1 h2 h3 (by simp) (acV hc u) h
theorem OL {c:UInt8} (hc:c∈([60,62,33,61]:List UInt8)) {u:List UInt8} {T:List (Int×Int×List UInt8)} (hu:∀ r,u≠61::r) (h:LX u T):LX (c::u) ((7,0,[c])::T):=by
 have hh:∀ c:UInt8,c∈([60,62,33,61]:List UInt8)→lD (bt [c] 0)=0∧bt [c] 0≠34∧YJ (bt [c] 0) (RJ (bt [c] 0) false)=false:=by decide
 obtain⟨h1,h2,h3⟩:=hh c hc
 exact Hz h1 h2 h3 (by simp) (acW hc hu) h
theorem acn {x:List UInt8} (hx:x∈([[38,38],[124,124],[61,61],[33,61],[60,61],[62,61]]:List (List UInt8))) {u:List UInt8} {T:List (Int×Int×List UInt8)} (h:LX u T):LX (x++u) ((7,0,x)::T):=by
 have hh:∀ x:List UInt8,x∈([[38,38],[124,124],[61,61],[33,61],[60,61],[62,61]]:List (List UInt8))→lD (bt x 0)=0∧bt x 0≠34∧YJ (bt x 0) (RJ (bt x 0) false)=false∧x≠[]:=by decide
 obtain⟨h1,h2,h3,h4⟩:=hh x hx
 exact Hz h1 h2 h3 h4 (acU hx u) h
end Go.Proofs.YtllbpdllkkcajaaGreatDoor
namespace Go.Proofs.YtllbpdllkkcajaaGreatDoor
open Go.RowKit
abbrev T3:=Int×Int×List UInt8
def sT (x:List UInt8):T3:=(7,0,x)
def rD (b:Bool) (s:List T3):List T3:=if b then sT [40]::(s++[sT [41]]) else s
def nO:Tr→List T3
 | .nd k _ _ _ x ks=>if k=15 then [(6,0,vI)] else if k=16 then [(6,0,pg)] else if k=17 then [(6,0,yC)] else if k=18 then [(6,0,rH)] else if k=19 then [(2,0,x)] else
   match ks with
   | t::_=>sT [91]::(nO t++[sT [93]])
   | []=>[]
mutual
def dN:Tr→List T3
 | .nd k _ _ n x ks=>
   if k=21 then [(3,n,[])]
   else if k=22 then [(4,n,[])]
   else if k=23 then [(5,0,x)]
   else if k=24 then [(6,0,if n=1 then jv else gB)]
   else if k=25 then [(6,0,oz)]
   else if k=26 then [(1,0,x)]
   else if k=27 then (1,0,x)::sT [40]::(Ef ks++[sT [41]])
   else if k=28 then (match ks with | a::b::_=>rD (decide (a.lv<8)) (dN a)++(sT [91]::(dN b++[sT [93]])) | _=>[])
   else if k=29 then (match ks with | a::_=>rD (decide (a.lv<8)) (dN a)++[sT [46],(1,0,x)] | _=>[])
   else if k=30 then (match ks with | a::_=>sT [if n=12 then 45 else 33]::rD (decide (a.lv<7)) (dN a) | _=>[])
   else if k=31 then (match ks with | a::b::_=>rD (decide (a.lv<rF (kz n).2)) (dN a)++(sT (kz n).1::rD (decide (b.lv<(kz n).2+1)) (dN b)) | _=>[])
   else if k=32 then (match ks with | a::bs=>(6,0,eP)::(nO a++(sT [40]::(Ef bs++[sT [41]]))) | _=>[])
   else []
def Ef:List Tr→List T3
 | []=>[]
 | t::ts=>dN t++zy ts
def zy:List Tr→List T3
 | []=>[]
 | t::ts=>sT [44]::(dN t++zy ts)
end
section
variable (l c n:Int) (x:List UInt8)
theorem Ar (ks:List Tr):dN (.nd 27 l c n x ks)=(1,0,x)::sT [40]::(Ef ks++[sT [41]]):=by rw[dN.eq_def];simp
theorem xk (a b:Tr):dN (.nd 28 l c n x [a,b])=rD (decide (a.lv<8)) (dN a)++(sT [91]::(dN b++[sT [93]])):=by rw[dN.eq_def];simp
theorem IK (a:Tr):dN (.nd 29 l c n x [a])=rD (decide (a.lv<8)) (dN a)++[sT [46],(1,0,x)]:=by rw[dN.eq_def];simp
theorem RY (a:Tr):dN (.nd 30 l c n x [a])=sT [if n=12 then 45 else 33]::rD (decide (a.lv<7)) (dN a):=by rw[dN.eq_def];simp
theorem IJ (a b:Tr):dN (.nd 31 l c n x [a,b])=rD (decide (a.lv<rF (kz n).2)) (dN a)++(sT (kz n).1::rD (decide (b.lv<(kz n).2+1)) (dN b)):=by rw[dN.eq_def];simp
theorem o8 (a:Tr) (bs:List Tr):dN (.nd 32 l c n x (a::bs))=(6,0,eP)::(nO a++(sT [40]::(Ef bs++[sT [41]]))):=by rw[dN.eq_def];simp
end
theorem cZ {c:UInt8} (h:inB c.toNat=false) (u:List UInt8):D7 (c::u):=fun a r e=>by cases e;exact h
theorem mG {x u:List UInt8} {T:List T3} (hk:lD (bt x 0)=1) (hx:∀ c∈x,inB c.toNat=true) (hw:lN x=true) (hu:D7 u) (h:LX u T):LX (x++u) ((6,0,x)::T):=by
 have:=Hy (.inl hk) hx hu h
 unfold qj at this
 rw[if_neg (by omega),if_pos hw] at this
 exact this
theorem qh {x u:List UInt8} {T:List T3} (hx:uB x) (hu:D7 u) (h:LX u T):LX (x++u) ((1,0,x)::T):=by
 have:=Hy (.inl hx.1) hx.2.1 hu h
 unfold qj at this
 rw[if_neg (by rw[hx.1];decide),if_neg (by rw[hx.2.2.1];decide)] at this
 exact this
theorem BX {x u:List UInt8} {T:List T3} (hx:uQ x) (hu:D7 u) (h:LX u T):LX (x++u) ((2,0,x)::T):=by
 have:=Hy (.inr hx.1) hx.2.1 hu h
 unfold qj at this
 rw[if_pos hx.1] at this
 exact this
theorem BV {b:Bool} {s u:List UInt8} {S T:List T3} (hs:∀ {u:List UInt8} {T:List T3},D7 u→LX u T→LX (s++u) (S++T)) (hu:D7 u) (h:LX u T):LX (brk b s++u) (rD b S++T):=by
 cases b with
 | false=>exact hs hu h
 | true=>
   unfold brk rD
   simp only[if_true,List.cons_append,List.append_assoc,List.nil_append]
   exact dW (by decide) (hs (cZ (by decide) _) (dW (by decide) h))
theorem zY {t:Tr} (w:vK t):∀ {u:List UInt8} {T:List T3},D7 u→LX u T→LX (kZ t++u) (nO t++T):=by
 induction w with
 | word k l c hk=>
   intro u T hu h
   obtain⟨k1,k2⟩:=hk
   rcases (by omega:k=15∨k=16∨k=17∨k=18) with rfl | rfl | rfl | rfl
   · exact mG (x:=vI) (by decide) (by decide) (by decide) hu h
   · exact mG (x:=pg) (by decide) (by decide) (by decide) hu h
   · exact mG (x:=yC) (by decide) (by decide) (by decide) hu h
   · exact mG (x:=rH) (by decide) (by decide) (by decide) hu h
 | big l c x hx=>
   intro u T hu h
   exact BX hx hu h
 | list l c t _ ih=>
   intro u T hu h
   have e1:kZ (.nd 20 l c 0 [] [t])++u=91::(kZ t++(93::u)):=by simp[kZ]
   have e2:nO (.nd 20 l c 0 [] [t])++T=sT [91]::(nO t++(sT [93]::T)):=by simp[nO]
   rw[e1,e2]
   exact dW (by decide) (ih (cZ (by decide) _) (dW (by decide) h))
theorem aa6 {t:Tr} (w:jL t):∀ (u r:List UInt8),tx t++u≠61::r:=by
 have kd:∀ {x u r:List UInt8},(lD (bt x 0)≠0)→x++u≠61::r:=by
  intro x u r h e
  cases x with
  | nil=>exact h rfl
  | cons c x=>cases e;exact h rfl
 have num:∀ {n:Int} {u r:List UInt8},0≤n→n≤9223372036854775807→txt n++u≠61::r:=by
  intro n u r h0 h1
  obtain⟨d1,_,d3,_,_⟩:=rZ n.natAbs (by omega)
  unfold txt
  rw[if_neg (by omega)]
  refine kd ?_
  generalize dec n.natAbs=d at *
  cases d with
  | nil=>exact absurd rfl d3
  | cons c d=>
    have:=BM (List.all_eq_true.1 d1 c (by simp))
    rw[iG]
    unfold kY at this
    rw[decide_eq_true_eq] at this
    omega
 have brk':∀ {b:Bool} {s u r:List UInt8},(∀ u r,s++u≠61::r)→brk b s++u≠61::r:=by
  intro b s u r h
  cases b with
  | false=>exact h u r
  | true=>intro e;cases e
 have dots:∀ {b:Bool} {s v u r:List UInt8},(∀ u r,s++u≠61::r)→(brk b s++v)++u≠61::r:=by
  intro b s v u r h
  rw[List.append_assoc];exact brk' h
 refine jL.rec (motive_1:=fun t _=>∀ (u r:List UInt8),tx t++u≠61::r) (motive_2:=fun _ _=>True) ?_ ?_ ?_ ?_ ?_ ?_ ?_ ?_ ?_ ?_ ?_ ?_ ?_ ?_ ?_ w
 · intro l c n h u r;exact num h.1 h.2
 · intro l c n h u r
   have:=num (n:=n) (u:=105::u) (r:=r) h.1 (by omega)
   simpa[tx] using this
 · intro l c x _ u r e;cases e
 · intro l c n h u r
   rcases h with rfl | rfl
   · intro e;cases e
   · intro e;cases e
 · intro l c u r e;cases e
 · intro l c x h u r
   rw[IP]
   exact kd (by rw[h.1];decide)
 · intro l c x h ks _ _ u r
   rw[AA,List.append_assoc]
   exact kd (by rw[h.1];decide)
 · intro l c a b _ _ ia _ u r
   rw[xq];exact dots ia
 · intro l c x _ a _ ia u r
   rw[IM];exact dots ia
 · intro l c n h a _ _ u r
   rcases h with rfl | rfl
   · intro e;cases e
   · intro e;cases e
 · intro l c n _ a b _ _ ia _ u r
   rw[IL];exact dots ia
 · intro l c l' c' x _ u r e;cases e
 · intro l c l' c' t _ b _ _ u r e;cases e
 · trivial
 · intro t ts _ _ _ _;trivial
theorem RI (n:Int):(kz n).1∈([[38,38],[124,124],[61,61],[33,61],[60,61],[62,61]]:List (List UInt8))∨(∃ c,(kz n).1=[c]∧c∈([43,45,42,47,37,40,41,123,125,91,93,44,59,58,46]:List UInt8))∨(∃ c,(kz n).1=[c]∧c∈([60,62,33,61]:List UInt8)):=by
 unfold kz
 by_cases c15:n=15
 · rw[if_pos c15];left;decide
 rw[if_neg c15]
 by_cases c14:n=14
 · rw[if_pos c14];left;decide
 rw[if_neg c14]
 by_cases c6:n=6
 · rw[if_pos c6];left;decide
 rw[if_neg c6]
 by_cases c7:n=7
 · rw[if_pos c7];left;decide
 rw[if_neg c7]
 by_cases c8:n=8
 · rw[if_pos c8];right;right;exact⟨_,rfl,by decide⟩
 rw[if_neg c8]
 by_cases c9:n=9
 · rw[if_pos c9];left;decide
 rw[if_neg c9]
 by_cases c10:n=10
 · rw[if_pos c10];right;right;exact⟨_,rfl,by decide⟩
 rw[if_neg c10]
 by_cases c11:n=11
 · rw[if_pos c11];left;decide
 rw[if_neg c11]
 by_cases c1:n=1
 · rw[if_pos c1];right;left;exact⟨_,rfl,by decide⟩
 rw[if_neg c1]
 by_cases c2:n=2
 · rw[if_pos c2];right;left;exact⟨_,rfl,by decide⟩
 rw[if_neg c2]
 by_cases c3:n=3
 · rw[if_pos c3];right;left;exact⟨_,rfl,by decide⟩
 rw[if_neg c3]
 by_cases c4:n=4
 · rw[if_pos c4];right;left;exact⟨_,rfl,by decide⟩
 rw[if_neg c4]
 right;left;exact⟨_,rfl,by decide⟩
theorem acr (n:Int) {u:List UInt8} {T:List T3} (h:LX (32::u) T):LX ((kz n).1++(32::u)) (sT (kz n).1::T):=by
 rcases RI n with h1 | ⟨c,e,hc⟩ | ⟨c,e,hc⟩
 · exact acn h1 h
 · rw[e];exact dW hc h
 · rw[e];exact OL hc (fun r e=>by cases e) h
theorem mF {t:Tr} (w:jL t):∀ {u:List UInt8} {T:List T3},D7 u→LX u T→LX (tx t++u) (dN t++T):=by
 refine jL.rec (motive_1:=fun t _=>∀ {u:List UInt8} {T:List T3},D7 u→LX u T→LX (tx t++u) (dN t++T)) (motive_2:=fun ts _=>(∀ {u:List UInt8} {T:List T3},D7 u→LX u T→LX (DK ts++u) (zy ts++T))∧(∀ {u:List UInt8} {T:List T3},D7 u→LX u T→LX (rQ ts++u) (Ef ts++T))) ?_ ?_ ?_ ?_ ?_ ?_ ?_ ?_ ?_ ?_ ?_ ?_ ?_ ?_ ?_ w
 · intro l c n h u T hu hT;exact acp h.1 h.2 hu hT
 · intro l c n h u T hu hT
   have:=aae (n:=n) h.1 h.2 hu hT
   simpa[tx,dN] using this
 · intro l c x _ u T _ hT;exact acs hT
 · intro l c n h u T hu hT
   rcases h with rfl | rfl
   · exact mG (x:=gB) (by decide) (by decide) (by decide) hu hT
   · exact mG (x:=jv) (by decide) (by decide) (by decide) hu hT
 · intro l c u T hu hT
   exact mG (x:=oz) (by decide) (by decide) (by decide) hu hT
 · intro l c x h u T hu hT
   exact qh h hu hT
 · intro l c x h ks _ ih u T hu hT
   have e1:tx (.nd 27 l c 0 x ks)++u=x++(40::(rQ ks++(41::u))):=by rw[AA];simp
   have e2:dN (.nd 27 l c 0 x ks)++T=(1,0,x)::sT [40]::(Ef ks++(sT [41]::T)):=by rw[Ar];simp
   rw[e1,e2]
   exact qh h (cZ (by decide) _) (dW (by decide) (ih.2 (cZ (by decide) _) (dW (by decide) hT)))
 · intro l c a b _ _ ia ib u T hu hT
   have e1:tx (.nd 28 l c 0 [] [a,b])++u=brk (decide (a.lv<8)) (tx a)++(91::(tx b++(93::u))):=by rw[xq];simp
   have e2:dN (.nd 28 l c 0 [] [a,b])++T=rD (decide (a.lv<8)) (dN a)++(sT [91]::(dN b++(sT [93]::T))):=by rw[xk];simp
   rw[e1,e2]
   exact BV ia (cZ (by decide) _) (dW (by decide) (ib (cZ (by decide) _) (dW (by decide) hT)))
 · intro l c x hx a _ ia u T hu hT
   have e1:tx (.nd 29 l c 0 x [a])++u=brk (decide (a.lv<8)) (tx a)++(46::(x++u)):=by rw[IM];simp
   have e2:dN (.nd 29 l c 0 x [a])++T=rD (decide (a.lv<8)) (dN a)++(sT [46]::(1,0,x)::T):=by rw[IK];simp
   rw[e1,e2]
   exact BV ia (cZ (by decide) _) (dW (by decide) (qh hx hu hT))
 · intro l c n h a wa ia u T hu hT
   have e1:tx (.nd 30 l c n [] [a])++u=(if n=12 then 45 else 33)::(brk (decide (a.lv<7)) (tx a)++u):=by rw[Y8];simp
   have e2:dN (.nd 30 l c n [] [a])++T=sT [if n=12 then 45 else 33]::(rD (decide (a.lv<7)) (dN a)++T):=by rw[RY];simp
   rw[e1,e2]
   have hin:=BV (b:=decide (a.lv<7)) ia hu hT
   rcases h with rfl | rfl
   · exact dW (by decide) hin
   · refine OL (c:=33) (by decide) (fun r=>?_) hin
     by_cases hb:a.lv<7
     · rw[show decide (a.lv<7)=true by simpa using hb]
       intro e;cases e
     · rw[show decide (a.lv<7)=false by simpa using hb]
       exact aa6 wa u r
 · intro l c n _ a b _ _ ia ib u T hu hT
   have e1:tx (.nd 31 l c n [] [a,b])++u=brk (decide (a.lv<rF (kz n).2)) (tx a)++(32::((kz n).1++(32::(brk (decide (b.lv<(kz n).2+1)) (tx b)++u)))):=by rw[IL];simp
   have e2:dN (.nd 31 l c n [] [a,b])++T=rD (decide (a.lv<rF (kz n).2)) (dN a)++(sT (kz n).1::(rD (decide (b.lv<(kz n).2+1)) (dN b)++T)):=by rw[IJ];simp
   rw[e1,e2]
   exact BV ia (cZ (by decide) _) (dA 32 (.inl rfl) (acr n (dA 32 (.inl rfl) (BV ib hu hT))))
 · intro l c l' c' x hx u T hu hT
   have e1:tx (.nd 32 l c 0 [] [.nd 19 l' c' 0 x []])++u=eP++(32::(x++(40::41::u))):=by rw[uw];simp[kZ,rQ]
   have e2:dN (.nd 32 l c 0 [] [.nd 19 l' c' 0 x []])++T=(6,0,eP)::(2,0,x)::sT [40]::sT [41]::T:=by rw[o8];simp[nO,Ef]
   rw[e1,e2]
   exact mG (by decide) (by decide) (by decide) (cZ (by decide) _) (dA 32 (.inl rfl) (BX hx (cZ (by decide) _) (dW (by decide) (dW (by decide) hT))))
 · intro l c l' c' t wt b _ ib u T hu hT
   have e1:tx (.nd 32 l c 0 [] [.nd 20 l' c' 0 [] [t],b])++u=eP++(32::(kZ (.nd 20 l' c' 0 [] [t])++(40::(tx b++(41::u))))):=by rw[uw];simp[rQ,DK]
   have e2:dN (.nd 32 l c 0 [] [.nd 20 l' c' 0 [] [t],b])++T=(6,0,eP)::(nO (.nd 20 l' c' 0 [] [t])++(sT [40]::(dN b++(sT [41]::T)))):=by rw[o8];simp[Ef,zy]
   rw[e1,e2]
   exact mG (by decide) (by decide) (by decide) (cZ (by decide) _) (dA 32 (.inl rfl) (zY (.list l' c' t wt) (cZ (by decide) _) (dW (by decide) (ib (cZ (by decide) _) (dW (by decide) hT)))))
 · exact⟨fun _ h=>h,fun _ h=>h⟩
 · intro t ts _ _ it its
   refine⟨fun {u T} hu hT=>?_,fun {u T} hu hT=>?_⟩
   · have e1:DK (t::ts)++u=44::32::(tx t++(DK ts++u)):=by simp[DK]
     have e2:zy (t::ts)++T=sT [44]::(dN t++(zy ts++T)):=by simp[zy]
     rw[e1,e2]
     refine dW (by decide) (dA 32 (.inl rfl) (it ?_ (its.1 hu hT)))
     cases ts with
     | nil=>exact hu
     | cons a ts=>exact cZ (by decide) _
   · have e1:rQ (t::ts)++u=tx t++(DK ts++u):=by simp[rQ]
     have e2:Ef (t::ts)++T=dN t++(zy ts++T):=by simp[Ef]
     rw[e1,e2]
     refine it ?_ (its.1 hu hT)
     cases ts with
     | nil=>exact hu
     | cons a ts=>exact cZ (by decide) _
end Go.Proofs.YtllbpdllkkcajaaGreatDoor
namespace Go.Proofs.YtllbpdllkkcajaaGreatDoor
open Go.RowKit
def Ev {α:Type} (f:Nat→Option α) (r:α):Prop:=∃ N,∀ n,N≤n→f n=some r
theorem Ev.of {α:Type} {f:Nat→Option α} {r:α} (N:Nat) (h:∀ n,N≤n→f n=some r):Ev f r:=⟨N,h⟩
theorem Ev.succ {α:Type} {f g:Nat→Option α} {r:α} (h:Ev g r) (hf:∀ n,f (n+1)=g n):Ev f r:=by
 obtain⟨N,hN⟩:=h
 refine⟨N+1,fun n hn=>?_⟩
 obtain⟨m,rfl⟩:∃ m,n=m+1:=⟨n - 1,by omega⟩
 rw[hf,hN m (by omega)]
theorem Ev.bind {α β:Type} {f:Nat→Option α} {g:Nat→α→Option β} {a:α} {r:β} (h:Ev f a) (hg:Ev (fun n=>g n a) r):Ev (fun n=>(f n).bind (g n)) r:=by
 obtain⟨N,hN⟩:=h
 obtain⟨M,hM⟩:=hg
 refine⟨N+M,fun n hn=>?_⟩
 simp only[hN n (by omega),Option.bind_some]
 exact hM n (by omega)
theorem Ev.map {α β:Type} {f:Nat→Option α} {g:α→β} {a:α} (h:Ev f a):Ev (fun n=>(f n).map g) (g a):=by
 obtain⟨N,hN⟩:=h
 exact⟨N,fun n hn=>by simp only[hN n hn,Option.map_some]⟩
theorem Ev.const {α:Type} (r:α):Ev (fun _=>some r) r:=⟨0,fun _ _=>rfl⟩
def df (L:List Tok) (a:Nat) (T:List T3):Prop:=(L.drop a).map Tok.p=T
def gs (a:Nat) (d:Int):PS:=⟨a,d,(0,0,0)⟩
section
variable {L:List Tok} {a:Nat} {d:Int} {k n:Int} {x:List UInt8} {T:List T3}
theorem df.hd (h:df L a ((k,n,x)::T)):(tk L (gs a d)).k=k∧(tk L (gs a d)).n=n∧(tk L (gs a d)).x=x∧df L (a+1) T:=by
 unfold df at h⊢
 have hlt:a<L.length:=by
  have:=congrArg List.length h
  rw[List.length_map,List.length_drop,List.length_cons] at this;omega
 rw[List.drop_eq_getElem_cons hlt,List.map_cons] at h
 injection h with h1 h2
 have e:tk L (gs a d)=L[a]:=by
  unfold Go.Proofs.YtllbpdllkkcajaaGreatDoor.tk gs
  rw[List.getD_eq_getElem?_getD,List.getElem?_eq_getElem hlt];rfl
 rw[e]
 unfold Tok.p at h1
 injection h1 with h3 h4
 injection h4 with h4 h5
 exact⟨h3,h4,h5,h2⟩
theorem df.app {S:List T3} (h:df L a (S++T)):df L (a+S.length) T:=by
 unfold df at h⊢
 rw[← List.drop_drop,List.map_drop,h,List.drop_left]
theorem dV:(gs a d).bad=false:=rfl
theorem df.is (h:df L a ((k,n,x)::T)) (s:List UInt8):dn L s (gs a d)=((k==6||k==7)&&x==s):=by
 obtain⟨h1,_,h3,_⟩:=h.hd (d:=d)
 unfold dn
 rw[dV,h1,h3]
 rfl
theorem df.yes (h:df L a (sT x::T)):dn L x (gs a d)=true:=by rw[h.is];simp
theorem df.word {n:Int} (h:df L a ((6,n,x)::T)):dn L x (gs a d)=true:=by rw[h.is];simp
theorem df.pass (h:df L a ((k,n,x)::T)) (h8:k≠8):bn L (gs a d)=gs (a+1) d:=by
 unfold bn
 rw[(h.hd).1,if_neg h8]
 rfl
theorem df.must (h:df L a (sT x::T)):bM L x (gs a d)=gs (a+1) d:=by
 unfold bM
 rw[h.yes,if_pos rfl,h.pass (by decide)]
theorem df.opens (h:df L a (sT x::T)) (hd:d+1≤40):dX L x (gs a d)=gs (a+1) (d+1):=by
 unfold dX
 have e:(gs a d).d=d:=rfl
 rw[h.yes,e,show (d==40)=false by rw[beq_eq_false_iff_ne];omega]
 simp only[Bool.and_false]
 rw[if_neg (by decide),h.must]
 rfl
theorem df.shut (h:df L a (sT x::T)):dD L x (gs a (d+1))=gs (a+1) d:=by
 unfold dD
 rw[h.must]
 show gs (a+1) (d+1 - 1)=_
 rw[Int.add_sub_cancel]
theorem df.wd (h:df L a ((k,n,x)::T)) (h8:k≠8):gW L k (gs a d)=gs (a+1) d:=by
 unfold gW
 rw[dV,(h.hd).1,if_neg (by simp),h.pass h8]
end
def Stp (lvl:Nat) (T:List T3):Prop:=∃ k n x T',T=(k,n,x)::T'∧(k=8∨(k=7∧x≠[91]∧x≠[46]∧x≠[40]∧(oW x).2<lvl))
def NoC (T:List T3):Prop:=∃ k n x T',T=(k,n,x)::T'∧(k=8∨(k=7∧x≠[40]))
theorem Stp.noc {lvl:Nat} {T:List T3} (h:Stp lvl T):NoC T:=by
 obtain⟨k,n,x,T',e,h⟩:=h
 exact⟨k,n,x,T',e,h.imp id fun h=>⟨h.1,h.2.2.2.1⟩⟩
theorem Stp.mono {lvl m:Nat} {T:List T3} (h:Stp lvl T) (hm:lvl≤m):Stp m T:=by
 obtain⟨k,n,x,T',e,h⟩:=h
 exact⟨k,n,x,T',e,h.imp id fun h=>⟨h.1,h.2.1,h.2.2.1,h.2.2.2.1,by omega⟩⟩
theorem gY {x:List UInt8} {T:List T3} {lvl:Nat} (h:x≠[91]∧x≠[46]∧x≠[40]∧(oW x).2<lvl):Stp lvl (sT x::T):=⟨7,0,x,T,rfl,.inr ⟨rfl,h⟩⟩
theorem Stp.op {L:List Tok} {a:Nat} {d:Int} {T:List T3} {lvl m:Nat} (h:Stp lvl T) (hm:lvl≤m) (hT:df L a T):xI L m (gs a d)=0:=by
 obtain⟨k,n,x,T',rfl,h⟩:=h
 obtain⟨h1,_,h3,_⟩:=hT.hd (d:=d)
 unfold xI
 rw[dV,h1,h3]
 rcases h with rfl | ⟨rfl,_,_,_,h⟩
 · rfl
 · rw[if_neg (by decide),if_neg (by omega)]
theorem Stp.post {L:List Tok} {a:Nat} {d:Int} {T:List T3} {lvl:Nat} (h:Stp lvl T) (hT:df L a T) (x:Tr) (n:Nat):jr L (n+1) x (gs a d)=some (x,gs a d):=by
 obtain⟨k,m,y,T',rfl,h⟩:=h
 rw[jr,hT.is,hT.is]
 rcases h with rfl | ⟨rfl,h1,h2,_,_⟩
 · rfl
 · rw[if_neg (by simp[h1]),if_neg (by simp[h2])]
theorem vZ {t:Tr} (w:vK t):∀ {L:List Tok} {a:Nat} {d:Int} {T:List T3},df L a (nO t++T)→(wJ t:Int)+d≤40→∃ t',t'.bare=t.bare∧Ev (fun n=>fK L n (gs a d)) (t',gs (a+(nO t).length) d):=by
 induction w with
 | word k l c hk=>
   intro L a d T h _
   obtain⟨k1,k2⟩:=hk
   rcases (by omega:k=15∨k=16∨k=17∨k=18) with rfl | rfl | rfl | rfl
   · have h':df L a ((6,0,vI)::T):=h
     refine⟨nd 15 (tk L (gs a d)) 0 [] [],rfl,.of 1 fun n hn=>?_⟩
     obtain⟨m,rfl⟩:∃ m,n=m+1:=⟨n - 1,by omega⟩
     simp only[fK]
     rw[dV,if_neg (by decide),h'.word,if_pos rfl,h'.pass (by decide)];rfl
   · have h':df L a ((6,0,pg)::T):=h
     refine⟨nd 16 (tk L (gs a d)) 0 [] [],rfl,.of 1 fun n hn=>?_⟩
     obtain⟨m,rfl⟩:∃ m,n=m+1:=⟨n - 1,by omega⟩
     simp only[fK]
     rw[dV,if_neg (by decide),h'.is vI,if_neg (by decide),h'.word,if_pos rfl,h'.pass (by decide)];rfl
   · have h':df L a ((6,0,yC)::T):=h
     refine⟨nd 17 (tk L (gs a d)) 0 [] [],rfl,.of 1 fun n hn=>?_⟩
     obtain⟨m,rfl⟩:∃ m,n=m+1:=⟨n - 1,by omega⟩
     simp only[fK]
     rw[dV,if_neg (by decide),h'.is vI,if_neg (by decide),h'.is pg,if_neg (by decide),h'.word,if_pos rfl,h'.pass (by decide)];rfl
   · have h':df L a ((6,0,rH)::T):=h
     refine⟨nd 18 (tk L (gs a d)) 0 [] [],rfl,.of 1 fun n hn=>?_⟩
     obtain⟨m,rfl⟩:∃ m,n=m+1:=⟨n - 1,by omega⟩
     simp only[fK]
     rw[dV,if_neg (by decide),h'.is vI,if_neg (by decide),h'.is pg,if_neg (by decide),h'.is yC,if_neg (by decide),h'.word,if_pos rfl,h'.pass (by decide)];rfl
 | big l c x hx=>
   intro L a d T h _
   have h':df L a ((2,0,x)::T):=h
   obtain⟨h1,h2,h3,h4⟩:=h'.hd (d:=d)
   refine⟨nd 19 (tk L (gs a d)) 0 (tk L (gs a d)).x [],by rw[h3];rfl,.of 1 fun n hn=>?_⟩
   obtain⟨m,rfl⟩:∃ m,n=m+1:=⟨n - 1,by omega⟩
   simp only[fK]
   rw[dV,if_neg (by decide),h'.is vI,if_neg (by simp),h'.is pg,if_neg (by simp),h'.is yC,if_neg (by simp),h'.is rH,if_neg (by simp),h1,if_pos rfl,h'.pass (by decide)];rfl
 | list l c t wt ih=>
   intro L a d T h hd
   have e2:nO (.nd 20 l c 0 [] [t])=sT [91]::(nO t++[sT [93]]):=by simp[nO]
   have e3:wJ (.nd 20 l c 0 [] [t])=wJ t+1:=by simp[wJ]
   rw[e2] at h⊢
   rw[e3] at hd
   have h':df L a (sT [91]::(nO t++(sT [93]::T))):=by simpa using h
   have h1:=(h'.hd (d:=d)).2.2.2
   obtain⟨t',hb,hE⟩:=ih h1 (d:=d+1) (by omega)
   have h2:=h1.app
   refine⟨nd 20 (tk L (gs a d)) 0 [] [t'],by simp[nd,Tr.bare,bP,hb],?_⟩
   refine Ev.succ (g:=fun n=>(fK L n (gs (a+1) (d+1))).map fun r=>(nd 20 (tk L (gs a d)) 0 [] [r.1],dD L [93] r.2)) ?_ fun n=>?_
   · have:=hE.map (g:=fun r=>(nd 20 (tk L (gs a d)) 0 [] [r.1],dD L [93] r.2))
     simp only[h2.shut] at this
     rw[show a+(sT [91]::(nO t++[sT [93]])).length=a+1+(nO t).length+1 by simp;omega]
     exact this
   · rw[fK,dV,if_neg (by decide),h'.is vI,if_neg (by decide),h'.is pg,if_neg (by decide),h'.is yC,if_neg (by decide),h'.is rH,if_neg (by decide),(h'.hd).1,if_neg (by decide),h'.yes,if_pos rfl,h'.opens (by omega)]
end Go.Proofs.YtllbpdllkkcajaaGreatDoor
namespace Go.Proofs.YtllbpdllkkcajaaGreatDoor
open Go.RowKit
section
variable (L:List Tok) (S:List T3) (a:Nat) (d:Int) (b:Tr)
def PF:Prop:=∃ t':Tr,t'.bare=b∧∀ r,Ev (fun n=>jr L n t' (gs (a+S.length) d)) r→Ev (fun n=>(fO L n (gs a d)).bind fun r=>jr L n r.1 r.2) r
def DF (lvl:Nat):Prop:=∃ t':Tr,t'.bare=b∧Ev (fun n=>eQ L n lvl (gs a d)) (t',gs (a+S.length) d)
def LF (lvl:Nat):Prop:=∃ t':Tr,t'.bare=b∧∀ r,Ev (fun n=>jQ L n lvl t' (gs (a+S.length) d)) r→Ev (fun n=>eQ L n lvl (gs a d)) r
end
section
variable {L:List Tok} {S T:List T3} {a:Nat} {d:Int} {b:Tr} {lvl:Nat}
theorem ZM (hT:df L a T) (hs:Stp lvl T) {m:Nat} (hm:lvl≤m) (t:Tr):Ev (fun n=>jQ L n m t (gs a d)) (t,gs a d):=.of 1 fun n hn=>by
 obtain⟨k,rfl⟩:∃ k,n=k+1:=⟨n - 1,by omega⟩
 simp only[jQ]
 rw[if_pos (hs.op hm hT)]
theorem LF.of (h6:lvl≤6) (h:DF L S a d b (lvl+1)):LF L S a d b lvl:=by
 obtain⟨t',hb,hE⟩:=h
 refine⟨t',hb,fun r hr=>?_⟩
 refine Ev.succ (g:=fun n=>(eQ L n (lvl+1) (gs a d)).bind fun r=>jQ L n lvl r.1 r.2) (hE.bind hr) fun n=>?_
 rw[eQ,if_neg (by omega)]
theorem DF.of (hT:df L (a+S.length) T) (hs:Stp lvl T) (h:LF L S a d b lvl):DF L S a d b lvl:=by
 obtain⟨t',hb,hE⟩:=h
 exact⟨t',hb,hE _ (ZM hT hs (Nat.le_refl _) t')⟩
theorem DF.down (hT:df L (a+S.length) T) {m:Nat} (hm:m≤7) (h:Stp m T→DF L S a d b m):∀ j lvl,lvl+j=m→Stp lvl T→DF L S a d b lvl
 | 0,lvl,e,hs=>by
   obtain rfl:lvl=m:=by omega
   exact h hs
 | j+1,lvl,e,hs=>DF.of hT hs (LF.of (by omega) (DF.down hT hm h j (lvl+1) (by omega) (hs.mono (by omega))))
theorem DF.seven (hT:df L (a+S.length) T) (hs:Stp lvl T) (h45:dn L [45] (gs a d)=false) (h33:dn L [33] (gs a d)=false) (h:PF L S a d b):DF L S a d b 7:=by
 obtain⟨t',hb,hE⟩:=h
 refine⟨t',hb,?_⟩
 have h1:=hE (t',gs (a+S.length) d) (.of 1 fun n hn=>by
  obtain⟨k,rfl⟩:∃ k,n=k+1:=⟨n - 1,by omega⟩
  exact hs.post hT t' k)
 have h2:Ev (fun n=>wP L n (gs a d)) (t',gs (a+S.length) d):=Ev.succ h1 fun n=>by rw[wP,h45,if_neg (by decide),h33,if_neg (by decide)]
 exact Ev.succ h2 fun n=>by rw[eQ,if_pos (by decide)]
theorem adm {r:Tr×PS} (h:Ev (fun n=>eQ L n 7 (gs a d)) r):Ev (fun n=>wP L n (gs a d)) r:=by
 obtain⟨N,hN⟩:=h
 refine⟨N,fun n hn=>?_⟩
 have:eQ L (n+1) 7 (gs a d)=some r:=hN (n+1) (by omega)
 rw[eQ,if_pos (by decide)] at this
 exact this
theorem Vq {n:Nat} (h:df L a (sT [40]::T)):fO L (n+1) (gs a d)=(eQ L n 1 (dX L [40] (gs a d))).map fun r=>(r.1,dD L [41] r.2):=by
 have hk:=(h.hd (d:=d)).1
 rw[fO,dV,if_neg (by decide),hk,if_neg (by decide),if_neg (by decide),if_neg (by decide),h.is jv,if_neg (by decide),h.is gB,if_neg (by decide),h.is oz,if_neg (by decide),if_neg (by decide),h.yes,if_pos rfl]
theorem Ej {n:Nat} (h:df L a ((6,0,eP)::T)):fO L (n+1) (gs a d)=(fK L n (gV L (gs a d))).bind fun r=>
        if r.1.k=20 then (eQ L n 1 (dX L [40] r.2)).map fun y=>(nd 32 (tk L (gs a d)) 0 [] [r.1,y.1],dD L [41] y.2)
        else some (nd 32 (tk L (gs a d)) 0 [] [r.1],dD L [41] (dX L [40] r.2)):=by
 have hk:=(h.hd (d:=d)).1
 rw[fO,dV,if_neg (by decide),hk,if_neg (by decide),if_neg (by decide),if_neg (by decide),h.is jv,if_neg (by decide),h.is gB,if_neg (by decide),h.is oz,if_neg (by decide),if_neg (by decide),h.is [40],if_neg (by decide),h.word,if_pos rfl]
end
theorem Dx (n:Int):1≤(kz n).2∧(kz n).2≤6:=by
 unfold kz
 by_cases c15:n=15
 · rw[if_pos c15];decide
 rw[if_neg c15]
 by_cases c14:n=14
 · rw[if_pos c14];decide
 rw[if_neg c14]
 by_cases c6:n=6
 · rw[if_pos c6];decide
 rw[if_neg c6]
 by_cases c7:n=7
 · rw[if_pos c7];decide
 rw[if_neg c7]
 by_cases c8:n=8
 · rw[if_pos c8];decide
 rw[if_neg c8]
 by_cases c9:n=9
 · rw[if_pos c9];decide
 rw[if_neg c9]
 by_cases c10:n=10
 · rw[if_pos c10];decide
 rw[if_neg c10]
 by_cases c11:n=11
 · rw[if_pos c11];decide
 rw[if_neg c11]
 by_cases c1:n=1
 · rw[if_pos c1];decide
 rw[if_neg c1]
 by_cases c2:n=2
 · rw[if_pos c2];decide
 rw[if_neg c2]
 by_cases c3:n=3
 · rw[if_pos c3];decide
 rw[if_neg c3]
 by_cases c4:n=4
 · rw[if_pos c4];decide
 rw[if_neg c4]
 decide
theorem lv8 (t:Tr):t.lv≤8:=by
 cases t with
 | nd k l c n x ks=>
   have:=Dx n
   simp only[Tr.lv]
   split
   · omega
   · split<;>omega
theorem acm (n:Int):rF (kz n).2≤7:=by
 have:=Dx n
 unfold rF;split<;>omega
theorem abS {t:Tr} (w:jL t):∃ k n x S,dN t=(k,n,x)::S∧((k=6∨k=7)→x≠[41])∧(t.lv=8→(k=6∨k=7)→x≠[45]∧x≠[33]):=by
 have brk':∀ {a:Tr} {m:Nat} {S:List T3},m≤8→(∃ k n x S,dN a=(k,n,x)::S∧((k=6∨k=7)→x≠[41])∧(a.lv=8→(k=6∨k=7)→x≠[45]∧x≠[33]))→∃ k n x S',rD (decide (a.lv<m)) (dN a)++S=(k,n,x)::S'∧((k=6∨k=7)→x≠[41])∧(8≤m→a.lv≤8→(k=6∨k=7)→x≠[45]∧x≠[33]):=by
  rintro a m S hm ⟨k,n,x,S',e,h1,h2⟩
  by_cases hl:a.lv<m
  · rw[decide_eq_true hl]
    exact⟨7,0,[40],_,rfl,fun _=>by decide,fun _ _ _=>by decide⟩
  · rw[decide_eq_false hl]
    unfold rD
    rw[if_neg (by decide),e]
    exact⟨k,n,x,_,rfl,h1,fun h3 h4=>h2 (by omega)⟩
 refine jL.rec (motive_1:=fun t _=>∃ k n x S,dN t=(k,n,x)::S∧((k=6∨k=7)→x≠[41])∧(t.lv=8→(k=6∨k=7)→x≠[45]∧x≠[33])) (motive_2:=fun _ _=>True) ?_ ?_ ?_ ?_ ?_ ?_ ?_ ?_ ?_ ?_ ?_ ?_ ?_ ?_ ?_ w
 · intro l c n h
   exact⟨3,n,[],[],rfl,fun h=>by omega,fun _ h=>by omega⟩
 · intro l c n h
   exact⟨4,n,[],[],rfl,fun h=>by omega,fun _ h=>by omega⟩
 · intro l c x _
   exact⟨5,0,x,[],rfl,fun h=>by omega,fun _ h=>by omega⟩
 · intro l c n h
   rcases h with rfl | rfl
   · exact⟨6,0,gB,[],rfl,fun _=>by decide,fun _ _=>by decide⟩
   · exact⟨6,0,jv,[],rfl,fun _=>by decide,fun _ _=>by decide⟩
 · intro l c
   exact⟨6,0,oz,[],rfl,fun _=>by decide,fun _ _=>by decide⟩
 · intro l c x h
   exact⟨1,0,x,[],by rw[dN.eq_def];simp,fun h=>by omega,fun _ h=>by omega⟩
 · intro l c x h ks _ _
   exact⟨1,0,x,_,Ar ..,fun h=>by omega,fun _ h=>by omega⟩
 · intro l c a b _ _ ia _
   rw[xk]
   obtain⟨k,n,x,S',e,h1,h2⟩:=brk' (m:=8) (S:=sT [91]::(dN b++[sT [93]])) (by omega) ia
   exact⟨k,n,x,S',e,h1,fun _=>h2 (by omega) (lv8 a)⟩
 · intro l c x _ a _ ia
   rw[IK]
   obtain⟨k,n,y,S',e,h1,h2⟩:=brk' (m:=8) (S:=[sT [46],(1,0,x)]) (by omega) ia
   exact⟨k,n,y,S',e,h1,fun _=>h2 (by omega) (lv8 a)⟩
 · intro l c n h a _ _
   rw[RY]
   refine⟨7,0,[if n=12 then 45 else 33],_,rfl,fun _=>?_,fun h=>?_⟩
   · rcases h with rfl | rfl<;>decide
   · have h7:(Tr.nd 30 l c n [] [a]).lv=7:=by simp[Tr.lv]
     omega
 · intro l c n h a b _ _ ia _
   rw[IJ]
   obtain⟨k,m,y,S',e,h1,_⟩:=brk' (m:=rF (kz n).2) (S:=sT (kz n).1::rD (decide (b.lv<(kz n).2+1)) (dN b)) (by have:=acm n;omega) ia
   refine⟨k,m,y,S',e,h1,fun h=>?_⟩
   have h7:(Tr.nd 31 l c n [] [a,b]).lv=(kz n).2:=by simp[Tr.lv]
   have:=Dx n
   omega
 · intro l c l' c' x _
   exact⟨6,0,eP,_,o8 ..,fun _=>by decide,fun _ _=>by decide⟩
 · intro l c l' c' t _ b _ _
   exact⟨6,0,eP,_,o8 ..,fun _=>by decide,fun _ _=>by decide⟩
 · trivial
 · intro t ts _ _ _ _;trivial
end Go.Proofs.YtllbpdllkkcajaaGreatDoor
namespace Go.Proofs.YtllbpdllkkcajaaGreatDoor
open Go.RowKit
def Xp (t:Tr):Prop:=∀ (L:List Tok) (a:Nat) (d:Int) (T:List T3),df L a (dN t++T)→(dp t:Int)+d≤40→
 (t.lv=8→NoC T→PF L (dN t) a d t.bare)∧(∀ lvl,1≤lvl→lvl≤7→lvl≤t.lv→Stp lvl T→DF L (dN t) a d t.bare lvl)∧
 (∀ lvl,(lvl=1∨lvl=2∨lvl=5∨lvl=6)→lvl≤t.lv→Stp (lvl+1) T→LF L (dN t) a d t.bare lvl)
section
variable {L:List Tok} {S T:List T3} {a:Nat} {d:Int} {b:Tr} {lvl:Nat}
theorem PF.all (hT:df L (a+S.length) T) (h45:dn L [45] (gs a d)=false) (h33:dn L [33] (gs a d)=false) (h:NoC T→PF L S a d b):
 (∀ lvl,1≤lvl→lvl≤7→Stp lvl T→DF L S a d b lvl)∧(∀ lvl,lvl≤6→Stp (lvl+1) T→LF L S a d b lvl):=by
 have h7:Stp 7 T→DF L S a d b 7:=fun hs=>DF.seven hT hs h45 h33 (h hs.noc)
 have hd:∀ lvl,lvl≤7→Stp lvl T→DF L S a d b lvl:=fun lvl hl hs=>DF.down hT (Nat.le_refl 7) h7 (7 - lvl) lvl (by omega) hs
 exact⟨fun lvl _ hl hs=>hd lvl hl hs,fun lvl hl hs=>LF.of hl (hd (lvl+1) (by omega) hs)⟩
theorem ac2 {t:Tr} (hX:Xp t) (h:df L a (sT [40]::(dN t++(sT [41]::T)))) (hl:1≤t.lv) (hd:(dp t:Int)+1+d≤40):PF L (rD true (dN t)) a d t.bare:=by
 have h1:=(h.hd (d:=d)).2.2.2
 obtain⟨t',hb,hE⟩:=(hX L (a+1) (d+1) _ h1 (by omega)).2.1 1 (by omega) (by omega) hl (gY (by decide))
 have h2:=h1.app
 refine⟨t',hb,fun r hr=>?_⟩
 have hA:Ev (fun n=>fO L n (gs a d)) (t',gs (a+1+(dN t).length+1) d):=by
  refine Ev.succ (g:=fun n=>(eQ L n 1 (dX L [40] (gs a d))).map fun r=>(r.1,dD L [41] r.2)) ?_ fun n=>Vq h
  rw[h.opens (by omega)]
  have:=hE.map (g:=fun r=>(r.1,dD L [41] r.2))
  simp only[h2.shut] at this
  exact this
 rw[show a+(rD true (dN t)).length=a+1+(dN t).length+1 by simp[rD];omega] at hr
 exact hA.bind hr
theorem DX {t:Tr} (_w:jL t) (hX:Xp t) {m:Nat} (h:df L a (rD (decide (t.lv<m)) (dN t)++T)) (hl:1≤t.lv) (hd:(tJ (decide (t.lv<m)) (dp t):Int)+d≤40):
 (m=8→NoC T→PF L (rD (decide (t.lv<m)) (dN t)) a d t.bare)∧(1≤m→m≤7→Stp m T→DF L (rD (decide (t.lv<m)) (dN t)) a d t.bare m)∧((m=1∨m=2∨m=5∨m=6)→Stp (m+1) T→LF L (rD (decide (t.lv<m)) (dN t)) a d t.bare m):=by
 by_cases hm:t.lv<m
 · rw[decide_eq_true hm] at h hd⊢
   have h':df L a (sT [40]::(dN t++(sT [41]::T))):=by simpa[rD] using h
   have hP:=ac2 (d:=d) hX h' hl (by rw[show tJ true (dp t)=dp t+1 from rfl] at hd;omega)
   have hA:=PF.all (T:=T) h.app (by rw[h'.is];decide) (by rw[h'.is];decide) (fun _=>hP)
   exact⟨fun _ _=>hP,fun h1 h2 h3=>hA.1 m h1 h2 h3,fun h1 h2=>hA.2 m (by omega) h2⟩
 · rw[decide_eq_false hm] at h hd⊢
   have h':df L a (dN t++T):=h
   obtain⟨x1,x2,x3⟩:=hX L a d T h' hd
   have:=lv8 t
   exact⟨fun h1 h2=>x1 (by omega) h2,fun h1 h2 h3=>x2 m h1 h2 (by omega) h3,fun h1 h2=>x3 m h1 (by omega) h2⟩
theorem oC {t:Tr} (w:jL t) (h8:t.lv=8) (h:∀ (L:List Tok) (a:Nat) (d:Int) (T:List T3),df L a (dN t++T)→(dp t:Int)+d≤40→NoC T→PF L (dN t) a d t.bare):Xp t:=by
 intro L a d T hT hd
 obtain⟨k,n,x,S,e,h1,h2⟩:=abS w
 have hT':df L a ((k,n,x)::(S++T)):=by rw[e] at hT;exact hT
 have no:∀ s:List UInt8,(s=[45]∨s=[33])→dn L s (gs a d)=false:=by
  intro s hs
  rw[hT'.is,Bool.and_eq_false_iff]
  by_cases hk:k=6∨k=7
  · right
    have:=h2 h8 hk
    rw[beq_eq_false_iff_ne]
    rcases hs with rfl | rfl
    · exact this.1
    · exact this.2
  · left
    simp only[Bool.or_eq_false_iff,beq_eq_false_iff_ne]
    exact⟨fun h=>hk (.inl h),fun h=>hk (.inr h)⟩
 have hA:=PF.all hT.app (no _ (.inl rfl)) (no _ (.inr rfl)) (h L a d T hT hd)
 exact⟨fun _ hn=>h L a d T hT hd hn,fun lvl l1 l2 _ hs=>hA.1 lvl l1 l2 hs,fun lvl hl _ hs=>hA.2 lvl (by omega) hs⟩
theorem qO {k n:Int} {x:List UInt8} {t':Tr} (_h:df L a ((k,n,x)::T)) (hb:t'.bare=b) (hA:∀ n,fO L (n+1) (gs a d)=some (t',gs (a+1) d)) (hS:S.length=1):PF L S a d b:=by
 refine⟨t',hb,fun r hr=>?_⟩
 rw[hS] at hr
 have:Ev (fun n=>fO L n (gs a d)) (t',gs (a+1) d):=.of 1 fun m hm=>by
  obtain⟨j,rfl⟩:∃ j,m=j+1:=⟨m - 1,by omega⟩
  exact hA j
 exact this.bind hr
end
def Ys (ts:List Tr):Prop:=∀ (L:List Tok) (a:Nat) (d:Int) (T:List T3),(xR ts:Int)+d≤40→
 (df L a (zy ts++(sT [41]::T))→∃ ts':List Tr,bP ts'=bP ts∧∀ acc,Ev (fun n=>iY L n false acc (gs a d)) (acc++ts',gs (a+(zy ts).length) d))∧
 (df L a (Ef ts++(sT [41]::T))→∃ ts':List Tr,bP ts'=bP ts∧Ev (fun n=>iY L n true [] (gs a d)) (ts',gs (a+(Ef ts).length) d))
theorem ac3:Ys []:=by
 intro L a d T _
 have stop:∀ (h:df L a (sT [41]::T)) (f:Bool) (acc:List Tr),Ev (fun n=>iY L n f acc (gs a d)) (acc,gs a d):=fun h f acc=>.of 1 fun n hn=>by
  obtain⟨m,rfl⟩:∃ m,n=m+1:=⟨n - 1,by omega⟩
  simp only[iY]
  rw[dV,h.yes,if_pos (by decide)]
 exact⟨fun h=>⟨[],rfl,fun acc=>by simpa[zy] using stop h false acc⟩,fun h=>⟨[],rfl,by simpa[Ef] using stop h true []⟩⟩
theorem YQ (ts:List Tr) (T:List T3):Stp 1 (zy ts++(sT [41]::T)):=by
 cases ts with
 | nil=>exact gY (by decide)
 | cons t ts=>exact gY (by decide)
theorem jZ {t:Tr}:1≤t.lv:=by
 cases t with
 | nd k l c n x ks=>
   have:=Dx n
   simp only[Tr.lv]
   split
   · omega
   · split<;>omega
theorem abf {t:Tr} {ts:List Tr} (w:jL t) (hX:Xp t) (hY:Ys ts):Ys (t::ts):=by
 intro L a d T hd
 have hdt : (dp t : Int) + d ≤ 40 := by have:xR (t::ts)=max (dp t) (xR ts):=by simp[xR]
                                        omega
 have hds : (xR ts : Int) + d ≤ 40 := by  have:xR (t::ts)=max (dp t) (xR ts):=by simp[xR]
                                          omega
 have one:∀ (a:Nat),df L a (dN t++(zy ts++(sT [41]::T)))→∃ t':Tr,∃ ts':List Tr,t'.bare=t.bare∧bP ts'=bP ts∧∀ acc,Ev (fun n=>(eQ L n 1 (gs a d)).bind fun r=>iY L n false (acc++[r.1]) r.2) (acc++t'::ts',gs (a+(dN t).length+(zy ts).length) d):=by
  intro a h
  obtain⟨t',hb,hE⟩:=(hX L a d _ h hdt).2.1 1 (by omega) (by omega) jZ (YQ ts T)
  obtain⟨ts',hbs,hEs⟩:=(hY L (a+(dN t).length) d T hds).1 h.app
  refine⟨t',ts',hb,hbs,fun acc=>?_⟩
  have:=hE.bind (g:=fun n r=>iY L n false (acc++[r.1]) r.2) (hEs (acc++[t']))
  simpa using this
 refine⟨fun h=>?_,fun h=>?_⟩
 · have e1:zy (t::ts)=sT [44]::(dN t++zy ts):=by simp[zy]
   rw[e1] at h⊢
   have h':df L a (sT [44]::(dN t++(zy ts++(sT [41]::T)))):=by simpa using h
   have h1:=(h'.hd (d:=d)).2.2.2
   obtain⟨t',ts',hb,hbs,hE⟩:=one (a+1) h1
   refine⟨t'::ts',by simp[bP,hb,hbs],fun acc=>?_⟩
   refine Ev.succ (g:=fun n=>(eQ L n 1 (gs (a+1) d)).bind fun r=>iY L n false (acc++[r.1]) r.2) ?_ fun n=>?_
   · rw[show a+(sT [44]::(dN t++zy ts)).length=a+1+(dN t).length+(zy ts).length by simp;omega]
     exact hE acc
   · rw[iY,dV,h'.is [41],if_neg (by decide),if_neg (by decide),h'.must]
 · have e1:Ef (t::ts)=dN t++zy ts:=by simp[Ef]
   rw[e1] at h⊢
   have h':df L a (dN t++(zy ts++(sT [41]::T))):=by simpa using h
   obtain⟨t',ts',hb,hbs,hE⟩:=one a h'
   obtain⟨k,n,x,S,e,g1,_⟩:=abS w
   have hk:df L a ((k,n,x)::(S++(zy ts++(sT [41]::T)))):=by rw[e] at h';exact h'
   have h41:dn L [41] (gs a d)=false:=by
    rw[hk.is,Bool.and_eq_false_iff]
    by_cases hk:k=6∨k=7
    · right;rw[beq_eq_false_iff_ne];exact g1 hk
    · left
      simp only[Bool.or_eq_false_iff,beq_eq_false_iff_ne]
      exact⟨fun h=>hk (.inl h),fun h=>hk (.inr h)⟩
   refine⟨t'::ts',by simp[bP,hb,hbs],?_⟩
   refine Ev.succ (g:=fun n=>(eQ L n 1 (gs a d)).bind fun r=>iY L n false ([]++[r.1]) r.2) ?_ fun n=>?_
   · rw[show a+(dN t++zy ts).length=a+(dN t).length+(zy ts).length by simp;omega]
     exact hE []
   · rw[iY,dV,h41,if_neg (by decide),if_pos rfl]
theorem acy:∀ n:Int,((1≤n∧n≤11)∨n=14∨n=15)→oW (kz n).1=(n,(kz n).2)∧(kz n).1≠[91]∧(kz n).1≠[46]∧(kz n).1≠[40]:=by
 intro n h
 rcases (by omega:n=1∨n=2∨n=3∨n=4∨n=5∨n=6∨n=7∨n=8∨n=9∨n=10∨n=11∨n=14∨n=15) with h | h | h | h | h | h | h | h | h | h | h | h | h<;>subst h<;>decide
end Go.Proofs.YtllbpdllkkcajaaGreatDoor
namespace Go.Proofs.YtllbpdllkkcajaaGreatDoor
open Go.RowKit
section
variable (l c n:Int) (x:List UInt8)
theorem Qw (ks:List Tr):dp (.nd 27 l c n x ks)=xR ks+1:=by rw[dp.eq_def];simp
theorem Jw (a b:Tr):dp (.nd 28 l c n x [a,b])=max (tJ (decide (a.lv<8)) (dp a)) (dp b+1):=by rw[dp.eq_def];simp
theorem V3 (a:Tr):dp (.nd 29 l c n x [a])=tJ (decide (a.lv<8)) (dp a):=by rw[dp.eq_def];simp
theorem abr (a:Tr):dp (.nd 30 l c n x [a])=tJ (decide (a.lv<7)) (dp a)+1:=by rw[dp.eq_def];simp
theorem VZ (a b:Tr):dp (.nd 31 l c n x [a,b])=max (tJ (decide (a.lv<rF (kz n).2)) (dp a)) (tJ (decide (b.lv<(kz n).2+1)) (dp b)):=by rw[dp.eq_def];simp
theorem zO (a:Tr) (bs:List Tr):dp (.nd 32 l c n x (a::bs))=max (wJ a) (xR bs+1):=by rw[dp.eq_def];simp
end
theorem eG (k:Int) (t:Tok) (n:Int) (x:List UInt8) (ks:List Tr):(nd k t n x ks).bare=.nd k 0 0 n x (bP ks):=rfl
set_option maxHeartbeats 1000000 in
theorem Zn {t:Tr} (w:jL t):Xp t:=by
 refine jL.rec (motive_1:=fun t _=>Xp t) (motive_2:=fun ts _=>Ys ts) ?_ ?_ ?_ ?_ ?_ ?_ ?_ ?_ ?_ ?_ ?_ ?_ ?_ ?_ ?_ w
 · intro l c n hn
   refine oC (.int l c n hn) rfl fun L a d T h _ _=>?_
   have h':df L a ((3,n,[])::T):=h
   obtain⟨h1,h2,h3,_⟩:=h'.hd (d:=d)
   refine qO (t':=nd 21 (tk L (gs a d)) (tk L (gs a d)).n [] []) h' (by rw[eG,h2];rfl) (fun n=>?_) rfl
   rw[fO,dV,if_neg (by decide),h1,if_pos rfl,h'.pass (by decide)]
 · intro l c n hn
   refine oC (.comp l c n hn) rfl fun L a d T h _ _=>?_
   have h':df L a ((4,n,[])::T):=h
   obtain⟨h1,h2,h3,_⟩:=h'.hd (d:=d)
   refine qO (t':=nd 22 (tk L (gs a d)) (tk L (gs a d)).n [] []) h' (by rw[eG,h2];rfl) (fun n=>?_) rfl
   rw[fO,dV,if_neg (by decide),h1,if_neg (by decide),if_pos rfl,h'.pass (by decide)]
 · intro l c x hx0
   refine oC (.str l c x hx0) rfl fun L a d T h _ _=>?_
   have h':df L a ((5,0,x)::T):=h
   obtain⟨h1,h2,h3,_⟩:=h'.hd (d:=d)
   refine qO (t':=nd 23 (tk L (gs a d)) 0 (tk L (gs a d)).x []) h' (by rw[eG,h3];rfl) (fun n=>?_) rfl
   rw[fO,dV,if_neg (by decide),h1,if_neg (by decide),if_neg (by decide),if_pos rfl,h'.pass (by decide)]
 · intro l c n hn
   refine oC (.bool l c n hn) rfl fun L a d T h _ _=>?_
   rcases hn with rfl | rfl
   · have h':df L a ((6,0,gB)::T):=h
     obtain⟨h1,h2,h3,_⟩:=h'.hd (d:=d)
     refine qO (t':=nd 24 (tk L (gs a d)) 0 [] []) h' rfl (fun n=>?_) rfl
     rw[fO,dV,if_neg (by decide),h1,if_neg (by decide),if_neg (by decide),if_neg (by decide),h'.is jv,if_neg (by decide),h'.word,if_pos rfl,h'.pass (by decide)]
   · have h':df L a ((6,0,jv)::T):=h
     obtain⟨h1,h2,h3,_⟩:=h'.hd (d:=d)
     refine qO (t':=nd 24 (tk L (gs a d)) 1 [] []) h' rfl (fun n=>?_) rfl
     rw[fO,dV,if_neg (by decide),h1,if_neg (by decide),if_neg (by decide),if_neg (by decide),h'.word,if_pos rfl,h'.pass (by decide)]
 · intro l c
   refine oC (.nil l c) rfl fun L a d T h _ _=>?_
   have h':df L a ((6,0,oz)::T):=h
   obtain⟨h1,h2,h3,_⟩:=h'.hd (d:=d)
   refine qO (t':=nd 25 (tk L (gs a d)) 0 [] []) h' rfl (fun n=>?_) rfl
   rw[fO,dV,if_neg (by decide),h1,if_neg (by decide),if_neg (by decide),if_neg (by decide),h'.is jv,if_neg (by decide),h'.is gB,if_neg (by decide),h'.word,if_pos rfl,h'.pass (by decide)]
 · intro l c x hx
   refine oC (.name l c x hx) rfl fun L a d T h _ hn=>?_
   have e1:dN (.nd 26 l c 0 x [])=[(1,0,x)]:=by rw[dN.eq_def];simp
   rw[e1] at h⊢
   have h':df L a ((1,0,x)::T):=h
   obtain⟨h1,h2,h3,h4⟩:=h'.hd (d:=d)
   refine qO (t':=nd 26 (tk L (gs a d)) 0 (tk L (gs a d)).x []) h' (by rw[eG,h3];rfl) (fun n=>?_) rfl
   have hc:dn L [40] (gs (a+1) d)=false:=by
    obtain⟨k,m,y,T',rfl,hk⟩:=hn
    rw[h4.is]
    rcases hk with rfl | ⟨rfl,hy⟩
    · rfl
    · simp[hy]
   rw[fO,dV,if_neg (by decide),h1,if_neg (by decide),if_neg (by decide),if_neg (by decide),h'.is jv,if_neg (by simp),h'.is gB,if_neg (by simp),h'.is oz,if_neg (by simp),if_pos rfl,h'.pass (by decide),hc,if_neg (by decide)]
 · intro l c x hx ks wk hY
   refine oC (.call l c x hx ks wk) rfl fun L a d T h hd _=>?_
   rw[Qw] at hd
   rw[Ar] at h⊢
   have h':df L a ((1,0,x)::sT [40]::(Ef ks++(sT [41]::T))):=by simpa using h
   obtain⟨h1,h2,h3,h4⟩:=h'.hd (d:=d)
   have h5:=(h4.hd (d:=d)).2.2.2
   obtain⟨ks',hb,hE⟩:=(hY L (a+1+1) (d+1) T (by omega)).2 h5
   have h6:=h5.app
   refine⟨nd 27 (tk L (gs a d)) 0 (tk L (gs a d)).x ks',by rw[eG,h3,hb];rfl,fun r hr=>?_⟩
   have hA:Ev (fun n=>fO L n (gs a d)) (nd 27 (tk L (gs a d)) 0 (tk L (gs a d)).x ks',gs (a+1+1+(Ef ks).length+1) d):=by
    refine Ev.succ (g:=fun n=>(iY L n true [] (gs (a+1+1) (d+1))).map fun r=>(nd 27 (tk L (gs a d)) 0 (tk L (gs a d)).x r.1,dD L [41] r.2)) ?_ fun n=>?_
    · have:=hE.map (g:=fun r=>(nd 27 (tk L (gs a d)) 0 (tk L (gs a d)).x r.1,dD L [41] r.2))
      simp only[h6.shut] at this
      exact this
    · rw[fO,dV,if_neg (by decide),h1,if_neg (by decide),if_neg (by decide),if_neg (by decide),h'.is jv,if_neg (by simp),h'.is gB,if_neg (by simp),h'.is oz,if_neg (by simp),if_pos rfl,h'.pass (by decide),h4.yes,if_pos rfl,h4.opens (by omega)]
   rw[show a+((1,0,x)::sT [40]::(Ef ks++[sT [41]])).length=a+1+1+(Ef ks).length+1 by simp;omega] at hr
   exact hA.bind hr
 · intro l c x y wx wy hx hy
   refine oC (.index l c x y wx wy) rfl fun L a d T h hd _=>?_
   rw[Jw] at hd
   rw[xk] at h⊢
   generalize hS:rD (decide (x.lv<8)) (dN x)=S at *
   have h':df L a (S++(sT [91]::(dN y++(sT [93]::T)))):=by simpa using h
   have ho:=DX (d:=d) wx hx (m:=8) (by rw[hS];exact h') jZ (by omega)
   rw[hS] at ho
   obtain⟨x',hbx,hE⟩:=ho.1 rfl ⟨7,0,[91],_,rfl,.inr ⟨rfl,by decide⟩⟩
   have h1:=h'.app
   have h2:=(h1.hd (d:=d)).2.2.2
   obtain⟨y',hby,hEy⟩:=(hy L _ (d+1) _ h2 (by omega)).2.1 1 (by omega) (by omega) jZ (gY (by decide))
   have h3:=h2.app
   refine⟨nd 28 (tk L (gs (a+S.length) d)) 0 [] [x',y'],by rw[eG];simp[bP,hbx,hby,Tr.bare],fun r hr=>hE r ?_⟩
   rw[show a+(S++(sT [91]::(dN y++[sT [93]]))).length=a+S.length+1+(dN y).length+1 by simp;omega] at hr
   refine Ev.succ (g:=fun n=>(eQ L n 1 (gs (a+S.length+1) (d+1))).bind fun r=>jr L n (nd 28 (tk L (gs (a+S.length) d)) 0 [] [x',r.1]) (dD L [93] r.2)) ?_ fun n=>?_
   · refine hEy.bind ?_
     simp only[h3.shut]
     exact hr
   · rw[jr,h1.yes,if_pos rfl,h1.opens (by omega)]
 · intro l c y hy x wx hx
   refine oC (.dot l c y hy x wx) rfl fun L a d T h hd _=>?_
   rw[V3] at hd
   rw[IK] at h⊢
   generalize hS:rD (decide (x.lv<8)) (dN x)=S at *
   have h':df L a (S++(sT [46]::(1,0,y)::T)):=by simpa using h
   have ho:=DX (d:=d) wx hx (m:=8) (by rw[hS];exact h') jZ hd
   rw[hS] at ho
   obtain⟨x',hbx,hE⟩:=ho.1 rfl ⟨7,0,[46],_,rfl,.inr ⟨rfl,by decide⟩⟩
   have h1:=h'.app
   have h2:=(h1.hd (d:=d)).2.2.2
   obtain⟨_,_,g3,_⟩:=h2.hd (d:=d)
   refine⟨nd 29 (tk L (gs (a+S.length) d)) 0 (tk L (gs (a+S.length+1) d)).x [x'],by rw[eG,g3];simp[bP,hbx,Tr.bare],fun r hr=>hE r ?_⟩
   rw[show a+(S++[sT [46],(1,0,y)]).length=a+S.length+1+1 by simp;omega] at hr
   refine Ev.succ (g:=fun n=>jr L n (nd 29 (tk L (gs (a+S.length) d)) 0 (tk L (gs (a+S.length+1) d)).x [x']) (gs (a+S.length+1+1) d)) hr fun n=>?_
   rw[jr,h1.is [91],if_neg (by decide),h1.yes,if_pos rfl,h1.pass (by decide),h2.wd (by decide)]
 · intro l c n hn x wx hx
   intro L a d T h hd
   have hlv:(Tr.nd 30 l c n [] [x]).lv=7:=by simp[Tr.lv]
   rw[abr] at hd
   rw[RY] at h⊢
   generalize hS:rD (decide (x.lv<7)) (dN x)=S at *
   generalize hg:(if n=12 then (45:UInt8) else 33)=g at *
   have h':df L a (sT [g]::(S++T)):=h
   have h1:=(h'.hd (d:=d)).2.2.2
   have h7:Stp 7 T→DF L (sT [g]::S) a d (Tr.nd 30 l c n [] [x]).bare 7:=by
    intro hs
    have ho:=DX wx hx (m:=7) (d:=d+1) (by rw[hS];exact h1) jZ (by omega)
    rw[hS] at ho
    obtain⟨x',hbx,hE⟩:=ho.2.1 (by omega) (by omega) hs
    have hE:=adm hE
    refine⟨nd 30 (tk L (gs a d)) n [] [x'],by rw[eG];simp[bP,hbx,Tr.bare],?_⟩
    have hx3:=(h'.hd (d:=d)).2.2.1
    have hU:Ev (fun n=>wP L n (gs a d)) (nd 30 (tk L (gs a d)) n [] [x'],gs (a+(sT [g]::S).length) d):=by
     refine Ev.succ (g:=fun m=>(wP L m (gs (a+1) (d+1))).map fun r=>(nd 30 (tk L (gs a d)) n [] [r.1],{ r.2 with d:=r.2.d - 1 })) ?_ fun m=>?_
     · have:=hE.map (g:=fun r=>(nd 30 (tk L (gs a d)) n [] [r.1],{ r.2 with d:=r.2.d - 1 }))
       rw[show a+(sT [g]::S).length=a+1+S.length by simp;omega]
       have e:({ gs (a+1+S.length) (d+1) with d:=(gs (a+1+S.length) (d+1)).d - 1 }:PS)=gs (a+1+S.length) d:=by
        show gs (a+1+S.length) (d+1 - 1)=_
        rw[Int.add_sub_cancel]
       simp only[e] at this
       exact this
     · rcases hn with rfl | rfl
       · rw[if_pos rfl] at hg
         subst hg
         rw[wP,h'.yes,if_pos rfl,hx3,h'.opens (by omega)]
       · rw[if_neg (by decide)] at hg
         subst hg
         rw[wP,h'.is [45],if_neg (by decide),h'.yes,if_pos rfl,hx3,h'.opens (by omega)]
    exact Ev.succ hU fun n=>by rw[eQ,if_pos (by decide)]
   have hTa:df L (a+(sT [g]::S).length) T:=by
    rw[show a+(sT [g]::S).length=a+1+S.length by simp;omega]
    exact h1.app
   have hdn:∀ lvl,lvl≤7→Stp lvl T→DF L (sT [g]::S) a d (Tr.nd 30 l c n [] [x]).bare lvl:=fun lvl hl hs=>DF.down hTa (Nat.le_refl 7) h7 (7 - lvl) lvl (by omega) hs
   exact⟨fun h8=>by omega,fun lvl _ h2 _ hs=>hdn lvl h2 hs,fun lvl hl h2 hs=>LF.of (by omega) (hdn (lvl+1) (by omega) hs)⟩
 · intro l c n hn x y wx wy hx hy
   intro L a d T h hd
   have hlv:(Tr.nd 31 l c n [] [x,y]).lv=(kz n).2:=by simp[Tr.lv]
   obtain⟨o1,o2,o3,o4⟩:=acy n hn
   have hsl:=Dx n
   rw[VZ] at hd
   rw[IJ] at h⊢
   generalize hm:(kz n).2=m at *
   generalize hg:(kz n).1=g at *
   have hn0:n≠0:=by omega
   have kX:∀ {p:Nat},df L p (sT g::(rD (decide (y.lv<m+1)) (dN y)++T))→xI L m (gs p d)=n:=by
    intro p hp
    obtain⟨g1,_,g3,_⟩:=hp.hd (d:=d)
    unfold xI
    rw[dV,g1,g3,o1,if_neg (by decide),if_pos rfl]
   have h':df L a (rD (decide (x.lv<rF m)) (dN x)++(sT g::(rD (decide (y.lv<m+1)) (dN y)++T))):=by simpa using h
   have h1:=h'.app
   have h2:=(h1.hd (d:=d)).2.2.2
   have ho:=DX (d:=d) wx hx (m:=rF m) h' jZ (by omega)
   have hyo:=DX (d:=d) wy hy (m:=m+1) h2 jZ (by omega)
   generalize hS:rD (decide (x.lv<rF m)) (dN x)=S at *
   generalize hS2:rD (decide (y.lv<m+1)) (dN y)=S2 at *
   have hlen:a+(S++(sT g::S2)).length=a+S.length+1+S2.length:=by simp;omega
   have hTa:df L (a+(S++(sT g::S2)).length) T:=by rw[hlen];exact h2.app
   have st1:Stp (m+1) (sT g::(S2++T)):=gY ⟨o2,o3,o4,by rw[o1];omega⟩
   by_cases h34:m=3∨m=4
   · have hlf:rF m=m+1:=by unfold rF;rw[if_pos h34]
     rw[hlf] at ho
     have hM:Stp m T→DF L (S++(sT g::S2)) a d (Tr.nd 31 l c n [] [x,y]).bare m:=by
      intro hs
      obtain⟨x',hbx,hEx⟩:=ho.2.1 (by omega) (by omega) st1
      obtain⟨y',hby,hEy⟩:=hyo.2.1 (by omega) (by omega) (hs.mono (by omega))
      refine⟨nd 31 (tk L (gs (a+S.length) d)) n [] [x',y'],by rw[eG];simp[bP,hbx,hby,Tr.bare],?_⟩
      refine Ev.succ (g:=fun k=>(eQ L k (m+1) (gs a d)).bind fun r=>jQ L k m r.1 r.2) (hEx.bind ?_) fun k=>by rw[eQ,if_neg (by omega)]
      refine Ev.succ (g:=fun k=>(eQ L k (m+1) (gs (a+S.length+1) d)).bind fun r=>some (nd 31 (tk L (gs (a+S.length) d)) n [] [x',r.1],r.2)) ?_ fun k=>?_
      · rw[hlen]
        exact hEy.bind (.const _)
      · simp only[jQ,kX h1,if_neg hn0,h1.pass (by decide),if_pos h34]
     have hdn:∀ lvl,lvl≤m→Stp lvl T→DF L (S++(sT g::S2)) a d (Tr.nd 31 l c n [] [x,y]).bare lvl:=fun lvl hl hs=>DF.down hTa (by omega) hM (m - lvl) lvl (by omega) hs
     refine⟨fun h8=>by omega,fun lvl _ _ h3 hs=>hdn lvl (by omega) hs,fun lvl hl h3 hs=>?_⟩
     exact LF.of (by omega) (hdn (lvl+1) (by omega) hs)
   · have hlf:rF m=m:=by unfold rF;rw[if_neg h34]
     rw[hlf] at ho
     have hM:Stp (m+1) T→LF L (S++(sT g::S2)) a d (Tr.nd 31 l c n [] [x,y]).bare m:=by
      intro hs
      obtain⟨x',hbx,hEx⟩:=ho.2.2 (by omega) st1
      obtain⟨y',hby,hEy⟩:=hyo.2.1 (by omega) (by omega) hs
      refine⟨nd 31 (tk L (gs (a+S.length) d)) n [] [x',y'],by rw[eG];simp[bP,hbx,hby,Tr.bare],fun r hr=>hEx r ?_⟩
      rw[hlen] at hr
      refine Ev.succ (g:=fun k=>(eQ L k (m+1) (gs (a+S.length+1) d)).bind fun r=>jQ L k m (nd 31 (tk L (gs (a+S.length) d)) n [] [x',r.1]) r.2) ?_ fun k=>?_
      · exact hEy.bind hr
      · simp only[jQ,kX h1,if_neg hn0,h1.pass (by decide),if_neg h34]
     have hdn:∀ lvl,lvl≤m→Stp lvl T→DF L (S++(sT g::S2)) a d (Tr.nd 31 l c n [] [x,y]).bare lvl:=fun lvl hl hs=>DF.down hTa (by omega) (fun hs=>DF.of hTa hs (hM (hs.mono (by omega)))) (m - lvl) lvl (by omega) hs
     refine⟨fun h8=>by omega,fun lvl _ _ h3 hs=>hdn lvl (by omega) hs,fun lvl hl h3 hs=>?_⟩
     by_cases e:lvl=m
     · subst e;exact hM hs
     · exact LF.of (by omega) (hdn (lvl+1) (by omega) hs)
 · intro l c l' c' x hx
   refine oC (.make l c l' c' x hx) rfl fun L a d T h hd _=>?_
   have e1:dN (.nd 32 l c 0 [] [.nd 19 l' c' 0 x []])=[(6,0,eP),(2,0,x),sT [40],sT [41]]:=by rw[o8];simp[nO,Ef]
   rw[zO] at hd
   rw[e1] at h⊢
   have h':df L a ((6,0,eP)::(2,0,x)::sT [40]::sT [41]::T):=h
   have h1:=(h'.hd (d:=d)).2.2.2
   obtain⟨g1,_,g3,h2⟩:=h1.hd (d:=d)
   have h3:=(h2.hd (d:=d)).2.2.2
   have hk:df L (a+1) (nO (.nd 19 l' c' 0 x [])++(sT [40]::sT [41]::T)):=h1
   obtain⟨k',hbk,hE⟩:=vZ (.big l' c' x hx) hk (d:=d) (by omega)
   have hph:gV L (gs a d)=gs (a+1) d:=by
    unfold gV
    rw[h'.pass (by decide),g1,if_neg (by simp)]
   have hkk:k'.k=19:=by
    have:=congrArg Tr.k hbk
    cases k' with
    | nd k l c n x ks=>exact this
   refine⟨nd 32 (tk L (gs a d)) 0 [] [k'],by rw[eG];simp[bP,hbk,Tr.bare],fun r hr=>?_⟩
   have hA:Ev (fun n=>fO L n (gs a d)) (nd 32 (tk L (gs a d)) 0 [] [k'],gs (a+1+1+1+1) d):=by
    refine Ev.succ ?_ fun n=>Ej h'
    rw[hph]
    refine hE.bind ?_
    have hl:(nO (.nd 19 l' c' 0 x [])).length=1:=rfl
    have hd1:d+1≤40:=by have:xR []=0:=rfl;omega
    simp only[hkk,hl,h2.opens hd1,h3.shut]
    exact .const _
   exact hA.bind hr
 · intro l c l' c' t wt y wy hy
   refine oC (.makes l c l' c' t wt y wy) rfl fun L a d T h hd _=>?_
   have wk:=vK.list l' c' t wt
   generalize hK:Tr.nd 20 l' c' 0 [] [t]=K at *
   have hKk:K.k=20:=by rw[← hK];rfl
   have hKt:∃ S,nO K=sT [91]::S:=by rw[← hK];exact⟨_,by simp[nO];rfl⟩
   have e1:dN (.nd 32 l c 0 [] [K,y])=(6,0,eP)::(nO K++(sT [40]::(dN y++[sT [41]]))):=by rw[o8];simp[Ef,zy]
   rw[zO] at hd
   have hdy:xR [y]=dp y:=by simp[xR]
   rw[hdy] at hd
   rw[e1] at h⊢
   have h':df L a ((6,0,eP)::(nO K++(sT [40]::(dN y++(sT [41]::T))))):=by simpa using h
   have h1:=(h'.hd (d:=d)).2.2.2
   obtain⟨k',hbk,hE⟩:=vZ wk h1 (d:=d) (by omega)
   have h2:=h1.app
   have h3:=(h2.hd (d:=d)).2.2.2
   obtain⟨y',hby,hEy⟩:=(hy L _ (d+1) _ h3 (by omega)).2.1 1 (by omega) (by omega) jZ (gY (by decide))
   have h4:=h3.app
   have hph:gV L (gs a d)=gs (a+1) d:=by
    obtain⟨S,e⟩:=hKt
    rw[e] at h1
    have h1':df L (a+1) (sT [91]::(S++(sT [40]::(dN y++(sT [41]::T))))):=h1
    unfold gV
    rw[h'.pass (by decide),h1'.yes,if_neg (by simp)]
   have hkk:k'.k=20:=by
    have:=congrArg Tr.k hbk
    rw[show K.bare.k=K.k by cases K;rfl,hKk] at this
    cases k' with
    | nd k l c n x ks=>exact this
   refine⟨nd 32 (tk L (gs a d)) 0 [] [k',y'],by rw[eG];simp[bP,hbk,hby,Tr.bare],fun r hr=>?_⟩
   have hA:Ev (fun n=>fO L n (gs a d)) (nd 32 (tk L (gs a d)) 0 [] [k',y'],gs (a+1+(nO K).length+1+(dN y).length+1) d):=by
    refine Ev.succ ?_ fun n=>Ej h'
    rw[hph]
    refine hE.bind ?_
    simp only[hkk,if_true,h2.opens (show d+1≤40 by omega)]
    have:=hEy.map (g:=fun r=>(nd 32 (tk L (gs a d)) 0 [] [k',r.1],dD L [41] r.2))
    simp only[h4.shut] at this
    exact this
   rw[show a+((6,0,eP)::(nO K++(sT [40]::(dN y++[sT [41]])))).length=a+1+(nO K).length+1+(dN y).length+1 by simp;omega] at hr
   exact hA.bind hr
 · exact ac3
 · intro t ts wt _ ht hs
   exact abf wt ht hs
end Go.Proofs.YtllbpdllkkcajaaGreatDoor
namespace Go.Proofs.YtllbpdllkkcajaaGreatDoor
open Go.RowKit
section
variable {L:List Tok}
theorem qf:∀ {n m:Nat} {p:PS} {r:Tr×PS},n≤m→fK L n p=some r→fK L m p=some r
 | 0,_,_,_,_,h=>by cases h
 | n+1,0,_,_,hm,_=>by omega
 | n+1,m+1,p,r,hm,h=>by
   rw[fK] at h⊢
   split at h
   · rename_i c;rw[if_pos c];exact h
   rename_i c;rw[if_neg c];clear c
   split at h
   · rename_i c;rw[if_pos c];exact h
   rename_i c;rw[if_neg c];clear c
   split at h
   · rename_i c;rw[if_pos c];exact h
   rename_i c;rw[if_neg c];clear c
   split at h
   · rename_i c;rw[if_pos c];exact h
   rename_i c;rw[if_neg c];clear c
   split at h
   · rename_i c;rw[if_pos c];exact h
   rename_i c;rw[if_neg c];clear c
   split at h
   · rename_i c;rw[if_pos c];exact h
   rename_i c;rw[if_neg c];clear c
   split at h
   · rename_i c
     rw[if_pos c]
     simp only[Option.map_eq_some_iff] at h⊢
     obtain⟨x,h1,h2⟩:=h
     exact⟨x,qf (by omega) h1,h2⟩
   · rename_i c;rw[if_neg c];exact h
def ac7 (L:List Tok) (n m:Nat):Prop:=
 (∀ lvl p r,eQ L n lvl p=some r→eQ L m lvl p=some r)∧(∀ lvl x p r,jQ L n lvl x p=some r→jQ L m lvl x p=some r)∧(∀ p r,wP L n p=some r→wP L m p=some r)∧
 (∀ x p r,jr L n x p=some r→jr L m x p=some r)∧(∀ p r,fO L n p=some r→fO L m p=some r)∧(∀ f acc p r,iY L n f acc p=some r→iY L m f acc p=some r)
theorem Lj:∀ {n m:Nat},n≤m→ac7 L n m
 | 0,_,_=>⟨fun _ _ _ h=>(by cases h),fun _ _ _ _ h=>(by cases h),fun _ _ h=>(by cases h),fun _ _ _ h=>(by cases h),fun _ _ h=>(by cases h),fun _ _ _ _ h=>(by cases h)⟩
 | n+1,0,h=>by omega
 | n+1,m+1,hm=>by
   obtain⟨i1,i2,i3,i4,i5,i6⟩:=Lj (n:=n) (m:=m) (by omega)
   refine⟨fun lvl p r h=>?_,fun lvl x p r h=>?_,fun p r h=>?_,fun x p r h=>?_,fun p r h=>?_,fun f acc p r h=>?_⟩
   · rw[eQ] at h⊢
     split at h
     · rename_i c;rw[if_pos c];exact i3 _ _ h
     · rename_i c
       rw[if_neg c]
       simp only[Option.bind_eq_some_iff] at h⊢
       obtain⟨y,h1,h2⟩:=h
       exact⟨y,i1 _ _ _ h1,i2 _ _ _ _ h2⟩
   · rw[jQ] at h⊢
     split at h
     · rename_i c;rw[if_pos c];exact h
     · rename_i c
       rw[if_neg c]
       simp only[Option.bind_eq_some_iff] at h⊢
       obtain⟨y,h1,h2⟩:=h
       refine⟨y,i1 _ _ _ h1,?_⟩
       split at h2
       · rename_i c;rw[if_pos c];exact h2
       · rename_i c;rw[if_neg c];exact i2 _ _ _ _ h2
   · rw[wP] at h⊢
     split at h
     · rename_i c
       rw[if_pos c]
       simp only[Option.map_eq_some_iff] at h⊢
       obtain⟨y,h1,h2⟩:=h
       exact⟨y,i3 _ _ h1,h2⟩
     · rename_i c
       rw[if_neg c]
       split at h
       · rename_i c
         rw[if_pos c]
         simp only[Option.map_eq_some_iff] at h⊢
         obtain⟨y,h1,h2⟩:=h
         exact⟨y,i3 _ _ h1,h2⟩
       · rename_i c
         rw[if_neg c]
         simp only[Option.bind_eq_some_iff] at h⊢
         obtain⟨y,h1,h2⟩:=h
         exact⟨y,i5 _ _ h1,i4 _ _ _ h2⟩
   · rw[jr] at h⊢
     split at h
     · rename_i c
       rw[if_pos c]
       simp only[Option.bind_eq_some_iff] at h⊢
       obtain⟨y,h1,h2⟩:=h
       exact⟨y,i1 _ _ _ h1,i4 _ _ _ h2⟩
     · rename_i c
       rw[if_neg c]
       split at h
       · rename_i c;rw[if_pos c];exact i4 _ _ _ h
       · rename_i c;rw[if_neg c];exact h
   · rw[fO] at h⊢
     by_cases c:p.bad=true
     · rw[if_pos c] at h ⊢;exact h
     rw[if_neg c] at h ⊢;clear c
     by_cases c:(tk L p).k=3
     · rw[if_pos c] at h ⊢;exact h
     rw[if_neg c] at h ⊢;clear c
     by_cases c:(tk L p).k=4
     · rw[if_pos c] at h ⊢;exact h
     rw[if_neg c] at h ⊢;clear c
     by_cases c:(tk L p).k=5
     · rw[if_pos c] at h ⊢;exact h
     rw[if_neg c] at h ⊢;clear c
     by_cases c:dn L jv p=true
     · rw[if_pos c] at h ⊢;exact h
     rw[if_neg c] at h ⊢;clear c
     by_cases c:dn L gB p=true
     · rw[if_pos c] at h ⊢;exact h
     rw[if_neg c] at h ⊢;clear c
     by_cases c:dn L oz p=true
     · rw[if_pos c] at h ⊢;exact h
     rw[if_neg c] at h ⊢;clear c
     by_cases c:(tk L p).k=1
     · rw[if_pos c] at h⊢
       by_cases c2:dn L [40] (bn L p)=true
       · rw[if_pos c2] at h⊢
         simp only[Option.map_eq_some_iff] at h⊢
         obtain⟨y,h1,h2⟩:=h
         exact⟨y,i6 _ _ _ _ h1,h2⟩
       · rw[if_neg c2] at h ⊢;exact h
     rw[if_neg c] at h ⊢;clear c
     by_cases c:dn L [40] p=true
     · rw[if_pos c] at h⊢
       simp only[Option.map_eq_some_iff] at h⊢
       obtain⟨y,h1,h2⟩:=h
       exact⟨y,i1 _ _ _ h1,h2⟩
     rw[if_neg c] at h ⊢;clear c
     by_cases c:dn L eP p=true
     · rw[if_pos c] at h⊢
       simp only[Option.bind_eq_some_iff] at h⊢
       obtain⟨y,h1,h2⟩:=h
       refine⟨y,qf (by omega) h1,?_⟩
       split at h2
       · rename_i c
         rw[if_pos c]
         simp only[Option.map_eq_some_iff] at h2⊢
         obtain⟨z,h3,h4⟩:=h2
         exact⟨z,i1 _ _ _ h3,h4⟩
       · rename_i c;rw[if_neg c];exact h2
     rw[if_neg c] at h ⊢;exact h
   · rw[iY] at h⊢
     split at h
     · rename_i c;rw[if_pos c];exact h
     · rename_i c
       rw[if_neg c]
       simp only[Option.bind_eq_some_iff] at h⊢
       obtain⟨y,h1,h2⟩:=h
       exact⟨y,i1 _ _ _ h1,i6 _ _ _ _ h2⟩
end
theorem abt {α:Type} {f:Nat→Option α} (hm:∀ n m r,n≤m→f n=some r→f m=some r) {r s:α} {n:Nat} (h:Ev f r) (hn:f n=some s):s=r:=by
 obtain⟨N,hN⟩:=h
 have h1:=hm n (max n N) s (Nat.le_max_left ..) hn
 rw[hN _ (Nat.le_max_right ..)] at h1
 cases h1;rfl
end Go.Proofs.YtllbpdllkkcajaaGreatDoor
namespace Go.Proofs.YtllbpdllkkcajaaGreatDoor
open Go.RowKit
def wX (x:List UInt8):Nat:=23+4*x.length
mutual
def wN:Tr→Nat
 | .nd _ _ _ _ x ks=>wX x+wS ks
def wS:List Tr→Nat
 | []=>0
 | t::ts=>wN t+wS ts
end
theorem tq (k:Int) (t:Tok) (n:Int) (x:List UInt8) (ks:List Tr):wN (nd k t n x ks)=wX x+wS ks:=rfl
theorem jI (t:Tr) (ts:List Tr):wS (t::ts)=wN t+wS ts:=rfl
theorem jo:wS []=0:=rfl
theorem Zd:∀ a b:List Tr,wS (a++b)=wS a+wS b
 | [],b=>by simp[wS]
 | t::a,b=>by rw[List.cons_append,jI,jI,Zd a b];omega
def wT (L:List Tok) (a:Nat):Nat:=((L.take a).map fun t=>wX t.x).sum
section
variable {L:List Tok}
theorem zA (L:List Tok) {a b:Nat} (h:a≤b):wT L a≤wT L b:=by
 unfold wT
 have e:L.take b=L.take a++(L.take b).drop a:=by
  conv=>lhs;rw[← List.take_append_drop a (L.take b)]
  rw[List.take_take,Nat.min_eq_left h]
 rw[e,List.map_append,List.sum_append]
 omega
theorem jq {p:PS} (h:(tk L p).k≠8):wT L (p.a+1)=wT L p.a+wX (tk L p).x:=by
 have hlt:p.a<L.length:=by
  by_cases hc:p.a<L.length
  · exact hc
  · exfalso;apply h
    unfold tk
    rw[List.getD_eq_getElem?_getD,List.getElem?_eq_none (by omega)];rfl
 have e:tk L p=L[p.a]:=by
  unfold tk
  rw[List.getD_eq_getElem?_getD,List.getElem?_eq_getElem hlt];rfl
 unfold wT
 rw[List.take_succ_eq_append_getElem hlt,List.map_append,List.sum_append,e]
 simp
theorem DR (x:List UInt8):23≤wX x:=by unfold wX;omega
theorem mf:wX []=23:=rfl
def TF (L:List Tok):Prop:=∀ p:PS,((tk L p).k=1→uB (tk L p).x)∧((tk L p).k=2→uQ (tk L p).x)∧((tk L p).k=3→0≤(tk L p).n∧(tk L p).n≤9223372036854775807)∧((tk L p).k=4→0≤(tk L p).n∧(tk L p).n≤8388607)∧((tk L p).k=5→(tk L p).x.length≤1000000)
theorem AV (v:Nat) {m m':Nat} (h:m≤m') (n:Nat):tJ (decide (v<m)) n≤tJ (decide (v<m')) n:=by
 unfold tJ
 by_cases h1:v<m
 · rw[decide_eq_true h1,decide_eq_true (Nat.lt_of_lt_of_le h1 h)];exact Nat.le_refl _
 · rw[decide_eq_false h1]
   split
   · rename_i h;cases h
   · split<;>omega
theorem gU {v m:Nat} (h:m≤v) (n:Nat):tJ (decide (v<m)) n=n:=by
 unfold tJ
 rw[decide_eq_false (by omega)];rfl
theorem ab5 (b:Bool) (n:Nat):tJ b n≤n+1:=by unfold tJ;split<;>omega
theorem Xv {x:List UInt8} {lvl:Nat} (h1:(oW x).2=lvl) (h0:(oW x).1≠0):((1≤(oW x).1∧(oW x).1≤11)∨(oW x).1=14∨(oW x).1=15)∧(kz (oW x).1).2=lvl:=by
 unfold oW at *
 by_cases c:x=[124,124]
 · rw[if_pos c] at h1 h0 ⊢;subst h1;decide
 rw[if_neg c] at h1 h0 ⊢;clear c
 by_cases c:x=[38,38]
 · rw[if_pos c] at h1 h0 ⊢;subst h1;decide
 rw[if_neg c] at h1 h0 ⊢;clear c
 by_cases c:x=[61,61]
 · rw[if_pos c] at h1 h0 ⊢;subst h1;decide
 rw[if_neg c] at h1 h0 ⊢;clear c
 by_cases c:x=[33,61]
 · rw[if_pos c] at h1 h0 ⊢;subst h1;decide
 rw[if_neg c] at h1 h0 ⊢;clear c
 by_cases c:x=[60]
 · rw[if_pos c] at h1 h0 ⊢;subst h1;decide
 rw[if_neg c] at h1 h0 ⊢;clear c
 by_cases c:x=[60,61]
 · rw[if_pos c] at h1 h0 ⊢;subst h1;decide
 rw[if_neg c] at h1 h0 ⊢;clear c
 by_cases c:x=[62]
 · rw[if_pos c] at h1 h0 ⊢;subst h1;decide
 rw[if_neg c] at h1 h0 ⊢;clear c
 by_cases c:x=[62,61]
 · rw[if_pos c] at h1 h0 ⊢;subst h1;decide
 rw[if_neg c] at h1 h0 ⊢;clear c
 by_cases c:x=[43]
 · rw[if_pos c] at h1 h0 ⊢;subst h1;decide
 rw[if_neg c] at h1 h0 ⊢;clear c
 by_cases c:x=[45]
 · rw[if_pos c] at h1 h0 ⊢;subst h1;decide
 rw[if_neg c] at h1 h0 ⊢;clear c
 by_cases c:x=[42]
 · rw[if_pos c] at h1 h0 ⊢;subst h1;decide
 rw[if_neg c] at h1 h0 ⊢;clear c
 by_cases c:x=[47]
 · rw[if_pos c] at h1 h0 ⊢;subst h1;decide
 rw[if_neg c] at h1 h0 ⊢;clear c
 by_cases c:x=[37]
 · rw[if_pos c] at h1 h0 ⊢;subst h1;decide
 rw[if_neg c] at h1 h0 ⊢;clear c
 exact absurd rfl h0
theorem acz {lvl:Nat} {p:PS} (h:xI L lvl p≠0):((1≤xI L lvl p∧xI L lvl p≤11)∨xI L lvl p=14∨xI L lvl p=15)∧(kz (xI L lvl p)).2=lvl∧(tk L p).k=7:=by
 unfold xI at *
 split at h
 · exact absurd rfl h
 rename_i c
 rw[if_neg c]
 have hk:(tk L p).k=7:=by
  simp only[Bool.or_eq_true,Bool.not_eq_true',beq_eq_false_iff_ne,not_or,ne_eq,Decidable.not_not] at c
  exact c.2
 split at h
 · rename_i c2
   rw[if_pos c2]
   obtain⟨h1,h2⟩:=Xv c2 h
   exact⟨h1,h2,hk⟩
 · exact absurd rfl h
theorem tX (H:LW L) (F:TF L):∀ (n:Nat) (p:PS) {t:Tr} {q:PS},fK L n p=some (t,q)→q.bad=false→p.d≤40→vK t∧(wJ t:Int)+p.d≤40∧wN t+wT L p.a≤wT L q.a∧(t.k=20∨wJ t=0)
 | 0,_,_,_,h,_,_=>by cases h
 | n+1,p,t,q,h,hq,hd=>by
   rw[fK] at h
   have leaf:∀ {k:Int} {s:List UInt8},15≤k∧k≤18→dn L s p=true→vK (nd k (tk L p) 0 [] [])∧(wJ (nd k (tk L p) 0 [] []):Int)+p.d≤40∧wN (nd k (tk L p) 0 [] [])+wT L p.a≤wT L (bn L p).a∧((nd k (tk L p) 0 [] []).k=20∨wJ (nd k (tk L p) 0 [] [])=0):=by
    intro k s hk c
    have h8:=(iI c).2
    have e:wJ (nd k (tk L p) 0 [] [])=0:=by simp[nd,wJ]
    refine⟨.word k _ _ hk,by rw[e];omega,?_,.inr e⟩
    rw[tq,dI h8,jq h8,mf,jo]
    have:=DR (tk L p).x
    omega
   split at h
   · rename_i c;cases h;rw[c] at hq;cases hq
   split at h
   · cases h;exact leaf (by omega) (by assumption)
   split at h
   · cases h;exact leaf (by omega) (by assumption)
   split at h
   · cases h;exact leaf (by omega) (by assumption)
   split at h
   · cases h;exact leaf (by omega) (by assumption)
   split at h
   · rename_i c
     cases h
     have h8:(tk L p).k≠8:=by omega
     have e:wJ (nd 19 (tk L p) 0 (tk L p).x [])=0:=by simp[nd,wJ]
     refine⟨.big _ _ _ ((F p).2.1 c),by rw[e];omega,?_,.inr e⟩
     rw[tq,dI h8,jq h8,jo];omega
   split at h
   · rename_i c
     simp only[Option.map_eq_some_iff] at h
     obtain⟨⟨x,r⟩,h1,h2⟩:=h
     cases h2
     obtain⟨s1,_,s3⟩:=jB hq
     have hr:=ay (bU H [93] r) hq
     have Ak:=dQ H n _ h1
     have ho:=ay Ak hr
     obtain⟨o1,o2,o3,o4⟩:=dS ho
     have Ao:=bf H [91] p
     obtain⟨g1,g2,g3,_⟩:=tX H F n _ h1 hr (by have:=Ao.d;omega)
     have e:wJ (nd 20 (tk L p) 0 [] [x])=wJ x+1:=by simp[nd,wJ]
     refine⟨.list _ _ _ g1,by rw[e];have:=Ao.d;omega,?_,.inl rfl⟩
     have h8:=(iI c).2
     rw[o4,jq h8] at g3
     rw[tq,jI,jo,mf]
     have:=DR (tk L p).x
     have hw:wT L r.a≤wT L (dD L [93] r).a:=zA L (bU H [93] r).a
     dsimp only at *;omega
   · cases h;exact (lG (by decide) hq).elim
end
end Go.Proofs.YtllbpdllkkcajaaGreatDoor
namespace Go.Proofs.YtllbpdllkkcajaaGreatDoor
open Go.RowKit
structure Gd (L:List Tok) (lvl:Nat) (p:PS) (t:Tr) (q:PS):Prop where
 wf:jL t
 dep:(tJ (decide (t.lv<lvl)) (dp t):Int)+p.d≤40
 wt:wN t+wT L p.a≤wT L q.a
structure GdX (L:List Tok) (lvl:Nat) (p:PS) (x t:Tr) (q:PS):Prop where
 wf:jL t
 dep:(tJ (decide (t.lv<lvl)) (dp t):Int)+p.d≤40
 wt:wN t+wT L p.a≤wT L q.a+wN x
structure GdS (L:List Tok) (p:PS) (a l:List Tr) (q:PS):Prop where
 wf:rJ l
 dep:(xR l:Int)+p.d≤40
 wt:wS l+wT L p.a≤wT L q.a+wS a
def GdE (L:List Tok) (n:Nat):Prop:=
 (∀ lvl p t q,eQ L n lvl p=some (t,q)→q.bad=false→p.d≤40→1≤lvl→lvl≤7→Gd L lvl p t q)∧
 (∀ lvl x p t q,jQ L n lvl x p=some (t,q)→q.bad=false→1≤lvl→lvl≤6→jL x→(tJ (decide (x.lv<rF lvl)) (dp x):Int)+p.d≤40→GdX L lvl p x t q)∧
 (∀ p t q,wP L n p=some (t,q)→q.bad=false→p.d≤40→Gd L 7 p t q)∧
 (∀ x p t q,jr L n x p=some (t,q)→q.bad=false→jL x→(tJ (decide (x.lv<8)) (dp x):Int)+p.d≤40→GdX L 8 p x t q)∧
 (∀ p t q,fO L n p=some (t,q)→q.bad=false→p.d≤40→Gd L 8 p t q)∧
 (∀ f acc p l q,iY L n f acc p=some (l,q)→q.bad=false→rJ acc→(xR acc:Int)+p.d≤40→GdS L p acc l q)
theorem Zk:∀ {a:List Tr} {t:Tr},rJ a→jL t→rJ (a++[t])
 | [],t,_,h=>.cons t [] h .nil
 | a::bs,t,h,ht=>by
   cases h with
   | cons _ _ h1 h2=>exact .cons a (bs++[t]) h1 (Zk h2 ht)
theorem Qx:∀ (a:List Tr) (t:Tr),xR (a++[t])=max (xR a) (dp t)
 | [],t=>by simp[xR]
 | a::bs,t=>by
   rw[List.cons_append,xR,xR,Qx bs t];omega
theorem adD {L:List Tok} {p:PS} {s:List UInt8} (h6:(tk L p).k≠6) (h7:(tk L p).k≠7):dn L s p=false:=by
 unfold dn;simp[h6,h7]
theorem acj {L:List Tok} {n:Nat} {p:PS} {t:Tr} {q:PS} (k2:(tk L p).k=2) (h:fK L n p=some (t,q)) (hb:p.bad=false):t.k=19:=by
 cases n with
 | zero=>cases h
 | succ n=>
   have no:∀ s,dn L s p=false:=fun s=>adD (by omega) (by omega)
   rw[fK,if_neg (by rw[hb];decide),no,if_neg (by decide),no,if_neg (by decide),no,if_neg (by decide),no,if_neg (by decide),if_pos k2] at h
   cases h;rfl
theorem ack {L:List Tok} {n:Nat} {p:PS} {t:Tr} {q:PS} (c:dn L [91] p=true) (h:fK L n p=some (t,q)):t.k=20:=by
 cases n with
 | zero=>cases h
 | succ n=>
   have hb:=c
   have hx:(tk L p).x=[91]:=by
    unfold dn at c
    simp only[Bool.and_eq_true,beq_iff_eq] at c
    exact c.2
   have hk:=(iI c).2
   have hk2:¬ (tk L p).k=2:=by
    unfold dn at c
    simp only[Bool.and_eq_true,Bool.or_eq_true,beq_iff_eq] at c
    omega
   have hbad:p.bad=false:=by
    unfold dn at c
    simp only[Bool.and_eq_true,Bool.not_eq_true'] at c
    exact c.1.1
   have no:∀ s:List UInt8,s≠[91]→dn L s p=false:=fun s hs=>by
    unfold dn
    rw[hx,Bool.and_eq_false_iff]
    right
    rw[beq_eq_false_iff_ne]
    exact fun e=>hs e.symm
   rw[fK,if_neg (by rw[hbad];decide),no vI (by decide),if_neg (by decide),no pg (by decide),if_neg (by decide),no yC (by decide),if_neg (by decide),no rH (by decide),if_neg (by decide),if_neg hk2,if_pos c] at h
   simp only[Option.map_eq_some_iff] at h
   obtain⟨x,_,he⟩:=h
   cases he;rfl
set_option maxHeartbeats 1000000 in
theorem gdE {L:List Tok} (H:LW L) (F:TF L):∀ n,GdE L n
 | 0=>⟨fun _ _ _ _ h=>(by cases h),fun _ _ _ _ _ h=>(by cases h),fun _ _ _ h=>(by cases h),fun _ _ _ _ h=>(by cases h),fun _ _ _ h=>(by cases h),fun _ _ _ _ _ h=>(by cases h)⟩
 | n+1=>by
   obtain⟨i1,i2,i3,i4,i5,i6⟩:=gdE H F n
   obtain⟨a1,a2,a3,a4,a5,a6⟩:=lh H n
   refine⟨fun lvl p t q h hq hd l1 l7=>?_,fun lvl x p t q h hq l1 l6 wx dx=>?_,fun p t q h hq hd=>?_,fun x p t q h hq wx dx=>?_,fun p t q h hq hd=>?_,fun f acc p l q h hq wa da=>?_⟩
   · rw[eQ] at h
     split at h
     · obtain rfl:lvl=7:=by omega
       exact i3 _ _ _ h hq hd
     · simp only[Option.bind_eq_some_iff] at h
       obtain⟨⟨y,r⟩,h1,h2⟩:=h
       have hr:r.bad=false:=ay (a2 _ _ _ _ _ h2) hq
       have G:=i1 _ _ _ _ h1 hr hd (by omega) (by omega)
       have A:=a1 _ _ _ _ h1
       have hdr:r.d=p.d:=by have:=A.d;omega
       have hl:rF lvl≤lvl+1:=by unfold rF;split<;>omega
       have dy:(tJ (decide (y.lv<rF lvl)) (dp y):Int)+r.d≤40:=by
        have:=AV y.lv hl (dp y)
        have:=G.dep
        omega
       have S:=i2 _ _ _ _ _ h2 hq l1 (by omega) G.wf dy
       exact⟨S.wf,by have:=S.dep;dsimp only at *;omega,by have:=S.wt;have:=G.wt;dsimp only at *;omega⟩
   · rw[jQ] at h
     have hl:lvl≤rF lvl:=by unfold rF;split<;>omega
     split at h
     · cases h
       exact⟨wx,by have:=AV x.lv hl (dp x);omega,by omega⟩
     · rename_i c
       obtain⟨o1,o2,o3⟩:=acz c
       have h8:(tk L p).k≠8:=by omega
       simp only[Option.bind_eq_some_iff] at h
       obtain⟨⟨y,r⟩,h1,h2⟩:=h
       have hr:r.bad=false:=by
        split at h2
        · cases h2;exact hq
        · exact ay (a2 _ _ _ _ _ h2) hq
       have Ap:=aJ H p
       have hdp:(bn L p).d=p.d:=by have:=Ap.d;omega
       have hd40:p.d≤40:=by omega
       have G:=i1 _ _ _ _ h1 hr (by omega) (by omega) (by omega)
       have A:=a1 _ _ _ _ h1
       have hdr:r.d=p.d:=by have:=A.d;omega
       have hw:=G.wt
       rw[dI h8,jq h8] at hw
       have hlv:(nd 31 (tk L p) (xI L lvl p) [] [x,y]).lv=lvl:=by
        unfold nd
        simp only[Tr.lv,if_true]
        exact o2
       have key:jL (nd 31 (tk L p) (xI L lvl p) [] [x,y])∧((dp (nd 31 (tk L p) (xI L lvl p) [] [x,y]):Nat):Int)+p.d≤40∧wN (nd 31 (tk L p) (xI L lvl p) [] [x,y])+wT L p.a≤wT L r.a+wN x:=by
        refine⟨.bin _ _ _ o1 x y wx G.wf,?_,?_⟩
        · have e:dp (nd 31 (tk L p) (xI L lvl p) [] [x,y])=max (tJ (decide (x.lv<rF lvl)) (dp x)) (tJ (decide (y.lv<lvl+1)) (dp y)):=by
           unfold nd;rw[VZ,o2]
          rw[e]
          have:=G.dep
          omega
        · rw[tq,jI,jI,jo,mf]
          have:=DR (tk L p).x
          dsimp only at *;omega
       split at h2
       · cases h2
         exact⟨key.1,by dsimp only at *;rw[gU (by omega)];exact key.2.1,key.2.2⟩
       · rename_i c34
         have hlf:rF lvl=lvl:=by unfold rF;rw[if_neg c34]
         have S:=i2 _ _ _ _ _ h2 hq l1 l6 key.1 (by dsimp only;rw[hlf,gU (Nat.le_of_eq hlv.symm)];have:=key.2.1;omega)
         exact⟨S.wf,by have:=S.dep;dsimp only at *;omega,by have:=S.wt;have:=key.2.2;dsimp only at *;omega⟩
   · have un:∀ {s:List UInt8} {m:Int},(m=12∨m=13)→dn L s p=true→(wP L n (dX L (tk L p).x p)).map (fun r=>(nd 30 (tk L p) m [] [r.1],{ r.2 with d:=r.2.d - 1 }))=some (t,q)→Gd L 7 p t q:=by
      intro s m hm c h
      simp only[Option.map_eq_some_iff] at h
      obtain⟨⟨y,r⟩,h1,h2⟩:=h
      cases h2
      have hr:r.bad=false:=hq
      have A:=a3 _ _ _ h1
      have Ao:=bf H (tk L p).x p
      obtain⟨_,_,_,g4⟩:=dS (ay A hr)
      have hdo:=Ao.d
      have G:=i3 _ _ _ h1 hr (by
       obtain⟨_,g2,_,_⟩:=dS (ay A hr)
       omega)
      have h8:=(iI c).2
      have hw:=G.wt
      rw[g4,jq h8] at hw
      have hlv:(nd 30 (tk L p) m [] [y]).lv=7:=by unfold nd;simp[Tr.lv]
      refine⟨.un _ _ _ hm y G.wf,?_,?_⟩
      · dsimp only
        rw[gU (Nat.le_of_eq hlv.symm)]
        have e:dp (nd 30 (tk L p) m [] [y])=tJ (decide (y.lv<7)) (dp y)+1:=by unfold nd;rw[abr]
        rw[e]
        have:=G.dep
        omega
      · rw[tq,jI,jo,mf]
        have:=DR (tk L p).x
        show _≤wT L r.a
        dsimp only at *;omega
     rw[wP] at h
     split at h
     · exact un (.inl rfl) (by assumption) h
     · split at h
       · exact un (.inr rfl) (by assumption) h
       · simp only[Option.bind_eq_some_iff] at h
         obtain⟨⟨y,r⟩,h1,h2⟩:=h
         have hr:r.bad=false:=ay (a4 _ _ _ _ h2) hq
         have G:=i5 _ _ _ h1 hr hd
         have A:=a5 _ _ _ h1
         have hdr:r.d=p.d:=by have:=A.d;omega
         have S:=i4 _ _ _ _ h2 hq G.wf (by have:=G.dep;dsimp only at *;omega)
         have:=AV t.lv (show 7≤8 by omega) (dp t)
         exact⟨S.wf,by have:=S.dep;dsimp only at *;omega,by have:=S.wt;have:=G.wt;dsimp only at *;omega⟩
   · rw[jr] at h
     split at h
     · rename_i c
       simp only[Option.bind_eq_some_iff] at h
       obtain⟨⟨y,r⟩,h1,h2⟩:=h
       have hs:(dD L [93] r).bad=false:=ay (a4 _ _ _ _ h2) hq
       have As:=bU H [93] r
       have hr:r.bad=false:=ay As hs
       have A:=a1 _ _ _ _ h1
       have Ao:=bf H [91] p
       obtain⟨_,o2,_,o4⟩:=dS (ay A hr)
       have h8:=(iI c).2
       have hdo:=Ao.d
       have hda:=A.d
       have hds:=As.d
       have G:=i1 _ _ _ _ h1 hr (by omega) (by omega) (by omega)
       have hw:=G.wt
       rw[o4,jq h8] at hw
       have hw2:wT L r.a≤wT L (dD L [93] r).a:=zA L As.a
       have hdy:(dp y:Int)+1+p.d≤40:=by
        have:=G.dep
        have e:tJ (decide (y.lv<1)) (dp y)=dp y:=gU jZ _
        rw[e] at this;omega
       have wn:jL (nd 28 (tk L p) 0 [] [x,y]):=.index _ _ x y wx G.wf
       have e:dp (nd 28 (tk L p) 0 [] [x,y])=max (tJ (decide (x.lv<8)) (dp x)) (dp y+1):=by unfold nd;rw[Jw]
       have S:=i4 _ _ _ _ h2 hq wn (by
        rw[gU (by unfold nd;simp[Tr.lv]),e]
        dsimp only at *;omega)
       refine⟨S.wf,by have:=S.dep;dsimp only at *;omega,?_⟩
       have:=S.wt
       rw[tq,jI,jI,jo,mf] at this
       have:=DR (tk L p).x
       dsimp only at *;omega
     · split at h
       · rename_i c
         have hs:(gW L 1 (bn L p)).bad=false:=ay (a4 _ _ _ _ h) hq
         obtain⟨w1,w2,w3,w4⟩:=kR (by decide) hs
         have h8:=(iI c).2
         have h81:(tk L (bn L p)).k≠8:=by omega
         have Ap:=aJ H p
         have Aw:=dF H 1 (bn L p)
         have hdp:=Ap.d
         have hdw:=Aw.d
         have wn:jL (nd 29 (tk L p) 0 (tk L (bn L p)).x [x]):=.dot _ _ _ ((F _).1 w2) x wx
         have e:dp (nd 29 (tk L p) 0 (tk L (bn L p)).x [x])=tJ (decide (x.lv<8)) (dp x):=by unfold nd;rw[V3]
         have S:=i4 _ _ _ _ h hq wn (by
          rw[gU (by unfold nd;simp[Tr.lv]),e]
          omega)
         refine⟨S.wf,by have:=S.dep;omega,?_⟩
         have hS:=S.wt
         rw[w4,jq h81,dI h8,jq h8,tq,jI,jo] at hS
         omega
       · cases h;exact⟨wx,dx,by omega⟩
   · rw[fO] at h
     have leaf:∀ {k m:Int} {x:List UInt8},jL (nd k (tk L p) m x [])→dp (nd k (tk L p) m x [])=0→(nd k (tk L p) m x []).lv=8→(tk L p).k≠8→x.length≤(tk L p).x.length→Gd L 8 p (nd k (tk L p) m x []) (bn L p):=by
      intro k m x hw hdp hlv h8 hx
      refine⟨hw,by rw[gU (by omega),hdp];omega,?_⟩
      rw[tq,jo,dI h8,jq h8]
      unfold wX;omega
     by_cases c:p.bad=true
     · rw[if_pos c] at h;cases h;rw[c] at hq;cases hq
     rw[if_neg c] at h;clear c
     by_cases c:(tk L p).k=3
     · rw[if_pos c] at h;cases h
       exact leaf (.int _ _ _ ((F p).2.2.1 c)) rfl rfl (by omega) (by simp)
     rw[if_neg c] at h;clear c
     by_cases c:(tk L p).k=4
     · rw[if_pos c] at h;cases h
       exact leaf (.comp _ _ _ ((F p).2.2.2.1 c)) rfl rfl (by omega) (by simp)
     rw[if_neg c] at h;clear c
     by_cases c:(tk L p).k=5
     · rw[if_pos c] at h;cases h
       exact leaf (.str _ _ _ ((F p).2.2.2.2 c)) rfl rfl (by omega) (by simp)
     rw[if_neg c] at h;clear c
     by_cases c:dn L jv p=true
     · rw[if_pos c] at h;cases h
       exact leaf (.bool _ _ _ (.inr rfl)) rfl rfl (iI c).2 (by simp)
     rw[if_neg c] at h;clear c
     by_cases c:dn L gB p=true
     · rw[if_pos c] at h;cases h
       exact leaf (.bool _ _ _ (.inl rfl)) rfl rfl (iI c).2 (by simp)
     rw[if_neg c] at h;clear c
     by_cases c:dn L oz p=true
     · rw[if_pos c] at h;cases h
       exact leaf (.nil _ _) rfl rfl (iI c).2 (by simp)
     rw[if_neg c] at h;clear c
     by_cases c:(tk L p).k=1
     · rw[if_pos c] at h
       have h8:(tk L p).k≠8:=by omega
       by_cases c2:dn L [40] (bn L p)=true
       · rw[if_pos c2] at h
         simp only[Option.map_eq_some_iff] at h
         obtain⟨⟨y,r⟩,h1,h2⟩:=h
         cases h2
         have As:=bU H [41] r
         have hr:r.bad=false:=ay As hq
         have A:=a6 _ _ _ _ _ h1
         have Ao:=bf H [40] (bn L p)
         have Ap:=aJ H p
         obtain⟨_,o2,_,o4⟩:=dS (ay A hr)
         have hdo:=Ao.d
         have hdp:=Ap.d
         have h82:=(iI c2).2
         have S:=i6 _ _ _ _ _ h1 hr .nil (by have:xR []=0:=rfl;omega)
         have hw:=S.wt
         rw[o4,jq h82,dI h8,jq h8,jo] at hw
         have hw2:wT L r.a≤wT L (dD L [41] r).a:=zA L As.a
         have e:dp (nd 27 (tk L p) 0 (tk L p).x y)=xR y+1:=by unfold nd;rw[Qw]
         refine⟨.call _ _ _ ((F p).1 c) y S.wf,?_,?_⟩
         · rw[gU (by unfold nd;simp[Tr.lv]),e]
           have:=S.dep
           omega
         · rw[tq]
           dsimp only at *;omega
       · rw[if_neg c2] at h;cases h
         exact leaf (.name _ _ _ ((F p).1 c)) rfl rfl h8 (Nat.le_refl _)
     rw[if_neg c] at h;clear c
     by_cases c:dn L [40] p=true
     · rw[if_pos c] at h
       simp only[Option.map_eq_some_iff] at h
       obtain⟨⟨y,r⟩,h1,h2⟩:=h
       cases h2
       have As:=bU H [41] r
       have hr:r.bad=false:=ay As hq
       have A:=a1 _ _ _ _ h1
       have Ao:=bf H [40] p
       obtain⟨_,o2,_,o4⟩:=dS (ay A hr)
       have hdo:=Ao.d
       have G:=i1 _ _ _ _ h1 hr (by omega) (by omega) (by omega)
       have hw:=G.wt
       rw[o4,jq (iI c).2] at hw
       have hw2:wT L r.a≤wT L (dD L [41] r).a:=zA L As.a
       refine⟨G.wf,?_,?_⟩
       · have hG:=G.dep
         have e:tJ (decide (y.lv<1)) (dp y)=dp y:=gU jZ _
         rw[e] at hG
         have:=ab5 (decide (y.lv<8)) (dp y)
         dsimp only at *;omega
       · dsimp only at *;omega
     rw[if_neg c] at h;clear c
     by_cases c:dn L eP p=true
     · rw[if_pos c] at h
       have h8:=(iI c).2
       simp only[Option.bind_eq_some_iff] at h
       obtain⟨⟨y,r⟩,h1,h2⟩:=h
       have Ap:=aJ H p
       have h0:gK L (bn L p) (gV L p) 0:=by
        unfold gV;split
        · exact fE 5 _
        · exact gK.refl _
       have Ak:=dQ H n _ h1
       have hhead:(gV L p).bad=false→(gV L p).a=p.a+1∧(tk L (bn L p)).k=2∨dn L [91] (bn L p)=true:=by
        intro hh
        unfold gV at hh⊢
        split at hh
        · exact (lG (by decide) hh).elim
        · rename_i hc
          rw[if_neg hc]
          simp only[Bool.and_eq_true,Bool.not_eq_true',beq_eq_false_iff_ne,not_and,ne_eq,Bool.not_eq_false] at hc
          by_cases k2:(tk L (bn L p)).k=2
          · exact .inl ⟨dI h8,k2⟩
          · exact .inr (hc k2)
       have ha:(gV L p).bad=false→(gV L p).a=p.a+1:=by
        unfold gV;split
        · exact fun h=>(lG (by decide) h).elim
        · exact fun _=>dI h8
       have hdp:=Ap.d
       have hd0:=h0.d
       have hdk:=Ak.d
       dsimp only at h2
       split at h2
       · rename_i k20
         simp only[Option.map_eq_some_iff] at h2
         obtain⟨⟨z,u⟩,h3,h4⟩:=h2
         cases h4
         have As:=bU H [41] u
         have hu:u.bad=false:=ay As hq
         have A:=a1 _ _ _ _ h3
         have hob:=ay A hu
         have Ao:=bf H [40] r
         obtain⟨o1,o2,_,o4⟩:=dS hob
         have hr:=ay Ao hob
         have hh:=ay Ak hr
         have hdo:=Ao.d
         obtain⟨K1,K2,K3,_⟩:=tX H F n _ h1 hr (by omega)
         have G:=i1 _ _ _ _ h3 hu (by dsimp only at *;omega) (by omega) (by omega)
         have hw:=G.wt
         rw[o4,jq (iI o1).2] at hw
         rw[ha hh,jq h8] at K3
         have hw2:wT L u.a≤wT L (dD L [41] u).a:=zA L As.a
         have wn:jL (nd 32 (tk L p) 0 [] [y,z]):=by
          cases K1 with
          | word k _ _ hk=>exact absurd k20 (by show ¬ k=20;omega)
          | big _ _ _ _=>exact absurd k20 (by show ¬ (19:Int)=20;decide)
          | list l' c' t' ht=>exact .makes _ _ l' c' t' ht z G.wf
         have e:dp (nd 32 (tk L p) 0 [] [y,z])=max (wJ y) (dp z+1):=by unfold nd;rw[zO];simp[xR]
         refine⟨wn,?_,?_⟩
         · rw[gU (by unfold nd;simp[Tr.lv]),e]
           have hG:=G.dep
           have e:tJ (decide (z.lv<1)) (dp z)=dp z:=gU jZ _
           rw[e] at hG
           dsimp only at *;omega
         · rw[tq,jI,jI,jo,mf]
           have:=DR (tk L p).x
           dsimp only at *;omega
       · rename_i k20
         cases h2
         have As:=bU H [41] (dX L [40] r)
         have hob:=ay As hq
         have Ao:=bf H [40] r
         obtain⟨o1,o2,_,o4⟩:=dS hob
         have hr:=ay Ao hob
         have hh:=ay Ak hr
         have hdo:=Ao.d
         obtain⟨K1,K2,K3,_⟩:=tX H F n _ h1 hr (by omega)
         rw[ha hh,jq h8] at K3
         have hw2:wT L r.a≤wT L (dD L [41] (dX L [40] r)).a:=zA L (Nat.le_trans Ao.a As.a)
         have hy19:y.k=19:=by
          rcases hhead hh with ⟨_,k2⟩ | c91
          · have hph:gV L p=bn L p:=by unfold gV;rw[k2];rfl
            rw[hph] at h1
            exact acj k2 h1 (by rw[← hph];exact hh)
          · exfalso
            have hph:gV L p=bn L p:=by unfold gV;rw[c91];simp
            rw[hph] at h1
            exact k20 (ack c91 h1)
         have wn:jL (nd 32 (tk L p) 0 [] [y]):=by
          cases K1 with
          | word k _ _ hk=>exact absurd hy19 (by show ¬ k=19;omega)
          | big l' c' x' hx'=>exact .make _ _ l' c' x' hx'
          | list l' c' t' ht=>exact absurd hy19 (by show ¬ (20:Int)=19;decide)
         have e:dp (nd 32 (tk L p) 0 [] [y])=max (wJ y) 1:=by unfold nd;rw[zO];simp[xR]
         refine⟨wn,?_,?_⟩
         · rw[gU (by unfold nd;simp[Tr.lv]),e]
           dsimp only at *;omega
         · rw[tq,jI,jo,mf]
           have:=DR (tk L p).x
           dsimp only at *;omega
     rw[if_neg c] at h
     cases h;exact (lG (by decide) hq).elim
   · rw[iY] at h
     split at h
     · cases h;exact⟨wa,da,by omega⟩
     · simp only[Option.bind_eq_some_iff] at h
       obtain⟨⟨y,r⟩,h1,h2⟩:=h
       have h0:gK L p (if f=true then p else bM L [44] p) 0:=by
        split
        · exact gK.refl p
        · exact aN H _ p
       have hr:r.bad=false:=ay (a6 _ _ _ _ _ h2) hq
       have A:=a1 _ _ _ _ h1
       have hd0:=h0.d
       have hda:=A.d
       have G:=i1 _ _ _ _ h1 hr (by omega) (by omega) (by omega)
       have hG:=G.dep
       have e:tJ (decide (y.lv<1)) (dp y)=dp y:=gU jZ _
       rw[e] at hG
       have hw0:=zA L h0.a
       have S:=i6 _ _ _ _ _ h2 hq (Zk wa G.wf) (by rw[Qx];dsimp only at *;omega)
       refine⟨S.wf,by have:=S.dep;dsimp only at *;omega,?_⟩
       have hS:=S.wt
       have hw:=G.wt
       rw[Zd,jI,jo] at hS
       dsimp only at *;omega
end Go.Proofs.YtllbpdllkkcajaaGreatDoor
namespace Go.Proofs.YtllbpdllkkcajaaGreatDoor
open Go.RowKit
theorem PU (p:Int→Bool) (s:List UInt8) (i:Nat):sub s i (i+rn p s i)=(s.drop i).takeWhile fun c=>p c.toNat:=by
 unfold sub rn
 rw[List.drop_take,Nat.add_sub_cancel_left]
 exact (List.prefix_iff_eq_take.1 (List.takeWhile_prefix _)).symm
theorem PY {p:UInt8→Bool}:∀ {l:List UInt8} {c:UInt8},c∈l.takeWhile p→p c=true
 | [],c,h=>by simp at h
 | a::l,c,h=>by
   rw[List.takeWhile_cons] at h
   split at h
   · rename_i ha
     rcases List.mem_cons.1 h with rfl | h
     · exact ha
     · exact PY h
   · simp at h
theorem Gh:∀ {d:List UInt8},(∀ c∈d,jP c=true)→∀ c∈strip d,jP c=true
 | [],h=>h
 | [a],h=>h
 | a::b::d,h=>by
   rw[strip]
   split
   · exact Gh fun c hc=>h c (by simp[List.mem_cons] at hc ⊢;exact .inr hc)
   · exact h
theorem acM {d:List UInt8} (h:∀ c∈d,jP c=true):0≤(pv d).1:=by
 have hdv:∀ d,0≤(pU false d).1:=by
  intro d
  unfold pU
  split
  · simp only[Bool.false_eq_true,if_false]
    split
    · simp
    · decide
  · decide
 cases d with
 | nil=>decide
 | cons c d=>
   have hc:=h c (by simp)
   have h45:¬ c=45:=by intro e;subst e;revert hc;decide
   simp only[pv,if_neg h45]
   split
   · decide
   · exact hdv _
theorem VV {c:UInt8} (h:kY c.toNat=true):jP c=true:=by
 unfold kY lD at h
 rw[decide_eq_true_eq] at h
 unfold jP
 have:=c.toNat_lt
 simp only[Bool.and_eq_true,decide_eq_true_eq]
 split at h
 · omega
 · split at h
   · omega
   · split at h
     · omega
     · omega
theorem Um {s:List UInt8} {j:Nat} (hj:j<s.length) (_hf:(one s j).f=0) (hx:(one s j).x.length≤1000000):
 ((one s j).k=1→uB (one s j).x)∧((one s j).k=2→uQ (one s j).x)∧((one s j).k=3→0≤(one s j).n∧(one s j).n≤9223372036854775807)∧((one s j).k=4→0≤(one s j).n∧(one s j).n≤8388607):=by
 unfold one at _hf hx⊢
 by_cases h1:lD (bt s j)=1∨lD (bt s j)=2
 · rw[if_pos h1] at _hf hx⊢
   have hin:inB (bt s j)=true:=by simp only[inB,decide_eq_true_eq];omega
   have hr:=kN (p:=inB) hj hin
   have hle:=Gf (p:=inB) (s:=s) (i:=j) (by omega)
   have hb:bt (sub s j (j+rn inB s j)) 0=bt s j:=Vx s j _ (by omega) hle
   have hall:∀ c∈sub s j (j+rn inB s j),inB c.toNat=true:=fun c hc=>by
    rw[PU] at hc
    exact PY (p:=fun c=>inB c.toNat) hc
   simp only
   unfold qj
   refine⟨fun h=>?_,fun h=>?_,fun h=>?_,fun h=>?_⟩
   · split at h
     · omega
     · rename_i h2
       split at h
       · omega
       · rename_i hw
         exact⟨by rw[hb];omega,hall,by simpa using hw,hx⟩
   · split at h
     · rename_i h2
       exact⟨by rw[hb];exact h2,hall,hx⟩
     · split at h<;>omega
   · split at h
     · omega
     · split at h<;>omega
   · split at h
     · omega
     · split at h<;>omega
 rw[if_neg h1] at _hf⊢
 by_cases h3:lD (bt s j)=3
 · rw[if_pos h3] at _hf⊢
   have hd:∀ c∈strip (sub s j (j+rn kY s j)),jP c=true:=Gh fun c hc=>by
    rw[PU] at hc
    exact VV (PY (p:=fun c=>kY c.toNat) hc)
   have hp:=acM hd
   simp only at _hf⊢
   unfold nm at _hf⊢
   split
   · rename_i h4
     rw[if_pos h4] at _hf
     unfold pJ at _hf⊢
     split
     · rename_i h5
       exact⟨fun h=>by simp at h,fun h=>by simp at h,fun _=>⟨hp,h5.2⟩,fun h=>by simp at h⟩
     · exact⟨fun h=>by simp at h,fun h=>by simp at h,fun h=>by simp at h,fun h=>by simp at h⟩
   · split
     · unfold pJ
       split
       · rename_i h5
         exact⟨fun h=>by simp at h,fun h=>by simp at h,fun h=>by simp at h,fun _=>⟨hp,h5.2⟩⟩
       · exact⟨fun h=>by simp at h,fun h=>by simp at h,fun h=>by simp at h,fun h=>by simp at h⟩
     · exact⟨fun h=>by simp at h,fun h=>by simp at h,fun h=>by simp at h,fun h=>by simp at h⟩
 rw[if_neg h3] at _hf⊢
 split
 · cases C9 (s.drop j) with
   | none=>exact⟨fun h=>by simp at h,fun h=>by simp at h,fun h=>by simp at h,fun h=>by simp at h⟩
   | some r=>exact⟨fun h=>by simp at h,fun h=>by simp at h,fun h=>by simp at h,fun h=>by simp at h⟩
 · split
   · exact⟨fun h=>by simp at h,fun h=>by simp at h,fun h=>by simp at h,fun h=>by simp at h⟩
   · exact⟨fun h=>by simp at h,fun h=>by simp at h,fun h=>by simp at h,fun h=>by simp at h⟩
theorem abR {s:List UInt8} {L:List Tok} (T:adb s L) (hxs:∀ t∈L,t.k≠8→t.x.length≤1000000):TF L:=by
 intro p
 by_cases hlt:p.a<L.length
 · have e:tk L p=L[p.a]:=by
    unfold tk
    rw[List.getD_eq_getElem?_getD,List.getElem?_eq_getElem hlt];rfl
   rw[e]
   have hxl:=hxs _ (List.getElem_mem hlt)
   by_cases h8:(L[p.a]).k=8
   · rw[h8];exact⟨fun h=>by omega,fun h=>by omega,fun h=>by omega,fun h=>by omega,fun h=>by omega⟩
   have hxl:=hxl h8
   rcases T.tok _ (List.getElem_mem hlt) with h | ⟨j,hj,hf,hk,hn,hx,_⟩
   · exact absurd h h8
   · rw[hx] at hxl
     rw[hk,hn,hx]
     obtain⟨g1,g2,g3,g4⟩:=Um hj hf hxl
     exact⟨g1,g2,g3,g4,fun _=>hxl⟩
 · have e:tk L p=⟨8,0,0,0,[]⟩:=by
    unfold tk
    rw[List.getD_eq_getElem?_getD,List.getElem?_eq_none (by omega)];rfl
   rw[e]
   exact⟨fun h=>by simp at h,fun h=>by simp at h,fun h=>by simp at h,fun h=>by simp at h,fun h=>by simp at h⟩
theorem ul:∀ (n:Nat) {s:List UInt8} {i:Nat} {acc t:List UInt8} {e:Nat},rdA n s i acc=some (t,e)→t.length+i≤e+acc.length
 | 0,s,i,acc,t,e,h=>by cases h
 | n+1,s,i,acc,t,e,h=>by
   rw[rdA] at h
   split at h
   · cases h
   split at h
   · cases h;omega
   split at h
   · have:=ul n h;simp at this;omega
   split at h
   · cases h
   split at h
   · have:=ul n h;simp at this;omega
   split at h
   · have:=ul n h;simp at this;omega
   split at h
   · have:=ul n h;simp at this;omega
   split at h
   · split at h
     · have:=ul n h;simp at this;omega
     · cases h
   · cases h
theorem Rn {s:List UInt8} {j:Nat} (hj:j<s.length) (hf:(one s j).f=0):(one s j).x.length+j≤(one s j).e:=by
 have hle:=(x8 hj hf).1
 unfold one at hf hle⊢
 by_cases h1:lD (bt s j)=1∨lD (bt s j)=2
 · rw[if_pos h1]
   simp only
   rw[PU]
   unfold rn
   omega
 rw[if_neg h1] at hf hle⊢
 by_cases h3:lD (bt s j)=3
 · rw[if_pos h3] at hf hle⊢
   simp only[List.length_nil] at hle⊢
   omega
 rw[if_neg h3] at hf hle⊢
 by_cases h34:bt s j=34
 · rw[if_pos h34] at hf hle⊢
   cases hq:C9 (s.drop j) with
   | none=>rw[hq] at hf;simp at hf
   | some r=>
     obtain⟨t,n⟩:=r
     unfold C9 at hq
     split at hq
     · cases hq
     · have:=ul _ hq
       simp only
       simp at this
       omega
 · rw[if_neg h34] at hf hle⊢
   split
   · rename_i h;rw[if_pos h] at hf;simp at hf
   · simp only;omega
theorem Ii {s:List UInt8}:∀ {l:List Tok} {i:Nat},Pls s i l→(l.dropLast.map fun t=>t.x.length).sum+i≤s.length
 | [],_,h=>by cases h
 | t::l,i,⟨h1,h2,h3⟩=>by
   rcases h3 with ⟨h4,h5,rfl⟩ | ⟨h4,h5,h6,h7,h8,h9,h10,h11⟩
   · simp;omega
   · have:=Ii h11
     have:=Rn h4 h5
     rw[List.dropLast_cons_of_ne_nil h10,List.map_cons,List.sum_cons,h8]
     omega
theorem YW:∀ l:List Tok,(l.map fun t=>wX t.x).sum=23*l.length+4*(l.map fun t=>t.x.length).sum
 | []=>rfl
 | t::l=>by rw[List.map_cons,List.sum_cons,List.map_cons,List.sum_cons,YW l,List.length_cons];unfold wX;omega
theorem Ze {s:List UInt8} (h:(bQ s).1.1=0) {a:Nat} (ha:a<(bQ s).2.length):wT (bQ s).2 a≤27*s.length:=by
 have hs:=Ii (uY h)
 have hlen:=(rf h).len
 generalize (bQ s).2=L at *
 refine Nat.le_trans (zA L (show a≤L.length - 1 by omega)) ?_
 unfold wT
 rw[← List.dropLast_eq_take,YW,List.length_dropLast]
 omega
theorem abL {s:List UInt8}:∀ {l:List Tok} {i:Nat},Pls s i l→∀ t∈l,t.k≠8→t.x.length≤s.length
 | [],_,h=>by cases h
 | t::l,i,⟨h1,h2,h3⟩=>by
   intro u hu hk
   rcases h3 with ⟨h4,h5,rfl⟩ | ⟨h4,h5,h6,h7,h8,h9,h10,h11⟩
   · rw[List.mem_singleton] at hu;subst hu;exact absurd h5 hk
   · rcases List.mem_cons.1 hu with rfl | hu
     · have:=Rn h4 h5
       have:=Ii h11
       rw[h8];omega
     · exact abL h11 u hu hk
theorem Y6 {s:List UInt8} (h:(bQ s).1.1=0) (hs:s.length≤1000000):∀ t∈(bQ s).2,t.k≠8→t.x.length≤1000000:=fun t ht hk=>Nat.le_trans (abL (uY h) t ht hk) hs
theorem Qs {m k:Nat} (h:m<10 ^ k) (hk:1≤k) (hm:m≤9223372036854775808):(dec m).length≤k:=by
 obtain⟨d1,d2,d3,d4,d5⟩:=rZ m hm
 by_cases h0:m=0
 · rw[d5 h0];exact hk
 · have:=aa9 (dec m) d3 d1 (d4 h0)
   rw[d2] at this
   by_cases hl:(dec m).length≤k
   · exact hl
   · exfalso
     have:10 ^ k≤10 ^ ((dec m).length - 1):=Nat.pow_le_pow_right (by decide) (by omega)
     omega
theorem ZP (x:List UInt8):(x.flatMap qb).length≤4*x.length:=by
 induction x with
 | nil=>simp
 | cons c x ih=>
   rw[List.flatMap_cons,List.length_append,List.length_cons]
   have:(qb c).length≤4:=by
    unfold qb
    split
    · simp
    · split
      · simp
      · split
        · simp
        · split<;>simp
   omega
theorem vN (b:Bool) (s:List UInt8):(brk b s).length≤s.length+2:=by unfold brk;split<;>simp
theorem zX {t:Tr} (w:vK t):(kZ t).length+4≤wN t:=by
 induction w with
 | word k l c hk=>
   obtain⟨k1,k2⟩:=hk
   rcases (by omega:k=15∨k=16∨k=17∨k=18) with rfl | rfl | rfl | rfl<;>simp[kZ,wN,wS,wX,vI,pg,yC,rH]
 | big l c x hx=>
   show x.length+4≤wX x+wS []
   unfold wX;omega
 | list l c t _ ih=>
   have e:kZ (.nd 20 l c 0 [] [t])=91::(kZ t++[93]):=by simp[kZ]
   rw[e]
   show _≤wX []+(wN t+wS [])
   rw[mf,jo]
   simp;omega
theorem pO {t:Tr} (w:jL t):(tx t).length+4≤wN t:=by
 refine jL.rec (motive_1:=fun t _=>(tx t).length+4≤wN t) (motive_2:=fun ts _=>(DK ts).length≤wS ts∧(rQ ts).length≤wS ts) ?_ ?_ ?_ ?_ ?_ ?_ ?_ ?_ ?_ ?_ ?_ ?_ ?_ ?_ ?_ w
 · intro l c n h
   show (txt n).length+4≤23
   have:=Qs (m:=n.natAbs) (k:=19) (by omega) (by decide) (by omega)
   unfold txt
   rw[if_neg (by omega)]
   omega
 · intro l c n h
   have e:tx (.nd 22 l c n [] [])=txt n++[105]:=by rw[tx.eq_def];simp
   rw[e]
   show _≤23
   have:=Qs (m:=n.natAbs) (k:=7) (by omega) (by decide) (by omega)
   unfold txt
   rw[if_neg (by omega)]
   simp;omega
 · intro l c x _
   have e:tx (.nd 23 l c 0 x [])=quo x:=by rw[tx.eq_def];simp
   rw[e]
   show _≤wX x
   have:=ZP x
   unfold quo wX
   rw[List.length_cons,List.length_append,List.length_singleton]
   omega
 · intro l c n h
   rcases h with rfl | rfl<;>simp[tx,wN,wS,wX,jv,gB]
 · intro l c;simp[tx,wN,wS,wX,oz]
 · intro l c x h
   rw[IP]
   show _≤wX x
   unfold wX;omega
 · intro l c x h ks _ ih
   rw[AA]
   show _≤wX x+wS ks
   unfold wX
   have:=ih.2
   simp;omega
 · intro l c a b _ _ ia ib
   rw[xq]
   show _≤wX []+(wN a+(wN b+wS []))
   rw[mf,jo]
   have:=vN (decide (a.lv<8)) (tx a)
   simp;omega
 · intro l c x _ a _ ia
   rw[IM]
   show _≤wX x+(wN a+wS [])
   rw[jo]
   unfold wX
   have:=vN (decide (a.lv<8)) (tx a)
   simp;omega
 · intro l c n _ a _ ia
   rw[Y8]
   show _≤wX []+(wN a+wS [])
   rw[mf,jo]
   have:=vN (decide (a.lv<7)) (tx a)
   simp;omega
 · intro l c n _ a b _ _ ia ib
   rw[IL]
   show _≤wX []+(wN a+(wN b+wS []))
   rw[mf,jo]
   have h1:=vN (decide (a.lv<rF (kz n).2)) (tx a)
   have h2:=vN (decide (b.lv<(kz n).2+1)) (tx b)
   have h3:(kz n).1.length≤2:=by
    rcases RI n with h | ⟨c,e,_⟩ | ⟨c,e,_⟩
    · revert h
      generalize (kz n).1=x
      intro h
      simp only[List.mem_cons,List.not_mem_nil,or_false] at h
      rcases h with rfl | rfl | rfl | rfl | rfl | rfl<;>decide
    · rw[e];simp
    · rw[e];simp
   simp;omega
 · intro l c l' c' x hx
   rw[uw]
   have e1:kZ (.nd 19 l' c' 0 x [])=x:=by simp[kZ]
   have e2:rQ []=[]:=rfl
   have e3:eP.length=4:=rfl
   rw[e1,e2]
   show _≤wX []+(wX x+wS []+wS [])
   rw[mf,jo]
   unfold wX
   simp[e3];omega
 · intro l c l' c' t wt b _ ib
   rw[uw]
   have h1:=zX (.list l' c' t wt)
   have e2:rQ [b]=tx b:=by simp[rQ,DK]
   have e3:eP.length=4:=rfl
   rw[e2]
   show _≤wX []+(wN (.nd 20 l' c' 0 [] [t])+(wN b+wS []))
   rw[mf,jo]
   simp[e3];omega
 · exact⟨Nat.le_refl _,Nat.le_refl _⟩
 · intro t ts _ _ it its
   have e1:DK (t::ts)=44::32::(tx t++DK ts):=by simp[DK]
   have e2:rQ (t::ts)=tx t++DK ts:=by simp[rQ]
   rw[e1,e2,jI]
   have:=its.1
   refine⟨?_,?_⟩
   · simp;omega
   · simp;omega
theorem PG {s:List UInt8} {f:Int×Int×Int} {t:Tr} (h:gy false s=some (f,t)) (hf:f.1=0) (hs:s.length≤2000):
 jL t∧(tx t).length≤65536∧∃ t' f',gy false (tx t)=some (f',t')∧f'.1=0∧t'.bare=t.bare:=by
 have hl0:=(lX h hf).1
 have T:=rf hl0
 have F:=abR T (Y6 hl0 (by omega))
 have e:=h
 unfold gy at e
 rw[if_neg (by simpa using hl0)] at e
 simp only[Option.map_eq_some_iff] at e
 obtain⟨⟨t0,q⟩,h1,h2⟩:=e
 cases h2
 have h1:eQ (bQ s).2 (iR (bQ s).2) 1 p0=some (t0,q):=h1
 have hq:q.bad=false:=by
  unfold vX at hf
  split at hf
  · unfold PS.bad;rw[hf];rfl
  · exfalso
    have:=iP (L:=(bQ s).2) (e:=5) (by decide) q
    unfold PS.bad at this
    rw[hf] at this
    exact absurd this (by decide)
 have G:=(gdE T.lw F _).1 _ _ _ _ h1 hq (by decide) (by decide) (by decide)
 have A:=(lh T.lw _).1 _ _ _ _ h1
 have hw:wN t0≤27*s.length:=by
  have:=G.wt
  have:=Ze hl0 (A.v T.lw.pos)
  omega
 have hlen:(tx t0).length≤65536:=by have:=pO G.wf;omega
 refine⟨G.wf,hlen,?_⟩
 obtain⟨L,hL,hp⟩:=Xh (s:=tx t0) (T:=dN t0++[(8,0,[])]) (by
  have:=mF G.wf (u:=[]) (T:=[(8,0,[])]) (fun c r e=>by cases e) Xi
  simpa using this)
 have hT:df L 0 (dN t0++[(8,0,[])]):=hp
 have hd:(dp t0:Int)+0≤40:=by
  have hG:=G.dep
  have e:tJ (decide (t0.lv<1)) (dp t0)=dp t0:=gU jZ _
  have e2:p0.d=0:=rfl
  rw[e,e2] at hG
  exact hG
 obtain⟨t',hb,hE⟩:=(Zn G.wf L 0 0 _ hT hd).2.1 1 (by decide) (by decide) jZ ⟨8,0,[],[],rfl,.inl rfl⟩
 obtain⟨⟨f',u⟩,hpu⟩:=qN false (tx t0)
 have hpu':=hpu
 unfold gy at hpu
 have hl1:(bQ (tx t0)).1.1=0:=by rw[hL]
 rw[if_neg (by simpa using hl1),hL] at hpu
 simp only[Option.map_eq_some_iff] at hpu
 obtain⟨⟨t2,q2⟩,h3,h4⟩:=hpu
 have h3:eQ L (iR L) 1 p0=some (t2,q2):=h3
 have he:=abt (fun n m r hnm hh=>(Lj hnm).1 1 p0 r hh) hE h3
 cases he
 cases h4
 refine⟨t',_,hpu',?_,hb⟩
 have hk:(tk L (gs (0+(dN t0).length) 0)).k=8:=(hT.app.hd).1
 unfold vX
 rw[if_pos hk]
 rfl
end Go.Proofs.YtllbpdllkkcajaaGreatDoor
namespace Go.Proofs.YtllbpdllkkcajaaGreatDoor
open Go.RowKit
def Rj (i:Nat):List UInt8:=10::List.replicate i 9
def Nj:Tr→List UInt8
 | .nd _ _ _ _ x ks=>x++(58::32::(match ks with | k::_=>kZ k | []=>[]))
mutual
def stx (i:Nat):Tr→List UInt8
 | .nd k _ _ _ x ks=>
   if k=7 then (match ks with | a::b::_=>l9++(32::(x++(58::32::(kZ a++(32::61::32::(tx b++[59])))))) | _=>[])
   else if k=8 then (match ks with | a::b::_=>tx a++(32::61::32::(tx b++[59])) | _=>[])
   else if k=9 then (match ks with | a::b::cs=>uO++(32::(tx a++(32::(tN i b++etx i cs)))) | _=>[])
   else if k=10 then (match ks with | a::b::_=>fU++(32::(tx a++(32::tN i b))) | _=>[])
   else if k=11 then (match ks with | a::_=>dE++(32::(tx a++[59])) | []=>dE++[59])
   else if k=12 then (match ks with | a::_=>gm++(32::(tx a++[59])) | []=>[])
   else (match ks with | a::_=>tx a++[59] | []=>[])
def tN (i:Nat):Tr→List UInt8
 | .nd _ _ _ _ _ ks=>123::(pM (i+1) ks++(Rj i++[125]))
def etx (i:Nat):List Tr→List UInt8
 | []=>[]
 | b::_=>32::(ou++(32::tN i b))
def pM (i:Nat):List Tr→List UInt8
 | []=>[]
 | t::ts=>Rj i++(stx i t++pM i ts)
end
def pG:List Tr→List UInt8
 | []=>[]
 | t::ts=>10::9::(Nj t++(59::pG ts))
def qA:List Tr→List UInt8
 | []=>[]
 | t::ts=>44::32::(Nj t++qA ts)
def qy:List Tr→List UInt8
 | []=>[]
 | t::ts=>Nj t++qA ts
def Eb (x:List UInt8) (ps:List Tr) (r b:Tr):List UInt8:=
 sZ++(32::(x++(40::(qy ps++(41::((if r.k=14 then [] else 58::32::kZ r)++(32::tN 0 b)))))))
def y9 (x:List UInt8) (fs:List Tr):List UInt8:=jJ++(32::(x++(32::123::(pG fs++[10,125]))))
def lM:Tr→List UInt8
 | .nd k _ _ n x ks=>if k=2 then y9 x ks else match ks.drop n.toNat with
   | r::b::_=>Eb x (ks.take n.toNat) r b
   | _=>[]
def eU:List Tr→List UInt8
 | []=>[]
 | t::ts=>lM t++(10::eU ts)
mutual
inductive IR:Tr→Prop
 | var (l c:Int) (x:List UInt8) (h:uB x) (a b:Tr) (ha:vK a) (hb:jL b):IR (.nd 7 l c 0 x [a,b])
 | set (l c:Int) (a b:Tr) (ha:jL a) (hk:a.k=26∨a.k=28∨a.k=29) (hb:jL b):IR (.nd 8 l c 0 [] [a,b])
 | if1 (l c:Int) (a b:Tr) (ha:jL a) (hb:Nc b):IR (.nd 9 l c 0 [] [a,b])
 | if2 (l c:Int) (a b e:Tr) (ha:jL a) (hb:Nc b) (he:Nc e):IR (.nd 9 l c 0 [] [a,b,e])
 | while_ (l c:Int) (a b:Tr) (ha:jL a) (hb:Nc b):IR (.nd 10 l c 0 [] [a,b])
 | ret0 (l c:Int):IR (.nd 11 l c 0 [] [])
 | ret1 (l c:Int) (a:Tr) (ha:jL a):IR (.nd 11 l c 0 [] [a])
 | print (l c:Int) (a:Tr) (ha:jL a):IR (.nd 12 l c 0 [] [a])
 | do_ (l c:Int) (a:Tr) (ha:jL a) (hk:a.k=27):IR (.nd 13 l c 0 [] [a])
inductive Nc:Tr→Prop
 | blk (l c:Int) (ks:List Tr) (h:oG ks):Nc (.nd 6 l c 0 [] ks)
inductive oG:List Tr→Prop
 | nil:oG []
 | cons (t:Tr) (ts:List Tr) (h:IR t) (hs:oG ts):oG (t::ts)
end
inductive xJ (k:Int):Tr→Prop
 | mk (l c:Int) (x:List UInt8) (h:uB x) (a:Tr) (ha:vK a):xJ k (.nd k l c 0 x [a])
inductive lg:Tr→Prop
 | rc (l c:Int) (x:List UInt8) (h:uQ x) (fs:List Tr) (hf:∀ t∈fs,xJ 3 t):lg (.nd 2 l c 0 x fs)
 | fn (l c:Int) (x:List UInt8) (h:uB x) (ps:List Tr) (hp:∀ t∈ps,xJ 5 t) (r b:Tr) (hr:r=.nd 14 0 0 0 [] []∨vK r) (hb:Nc b):lg (.nd 4 l c ps.length x (ps++[r,b]))
def wd (x:List UInt8):T3:=(6,0,x)
def Au:Tr→List T3
 | .nd _ _ _ _ x ks=>(1,0,x)::sT [58]::(match ks with | k::_=>nO k | []=>[])
mutual
def sto:Tr→List T3
 | .nd k _ _ _ x ks=>
   if k=7 then (match ks with | a::b::_=>wd l9::(1,0,x)::sT [58]::(nO a++(sT [61]::(dN b++[sT [59]]))) | _=>[])
   else if k=8 then (match ks with | a::b::_=>dN a++(sT [61]::(dN b++[sT [59]])) | _=>[])
   else if k=9 then (match ks with | a::b::cs=>wd uO::(dN a++(qH b++eto cs)) | _=>[])
   else if k=10 then (match ks with | a::b::_=>wd fU::(dN a++qH b) | _=>[])
   else if k=11 then (match ks with | a::_=>wd dE::(dN a++[sT [59]]) | []=>[wd dE,sT [59]])
   else if k=12 then (match ks with | a::_=>wd gm::(dN a++[sT [59]]) | []=>[])
   else (match ks with | a::_=>dN a++[sT [59]] | []=>[])
def qH:Tr→List T3
 | .nd _ _ _ _ _ ks=>sT [123]::(lZ ks++[sT [125]])
def eto:List Tr→List T3
 | []=>[]
 | b::_=>wd ou::qH b
def lZ:List Tr→List T3
 | []=>[]
 | t::ts=>sto t++lZ ts
end
def rM:List Tr→List T3
 | []=>[]
 | t::ts=>Au t++(sT [59]::rM ts)
def qx:List Tr→List T3
 | []=>[]
 | t::ts=>sT [44]::(Au t++qx ts)
def vC:List Tr→List T3
 | []=>[]
 | t::ts=>Au t++qx ts
def BD (x:List UInt8) (ps:List Tr) (r b:Tr):List T3:=
 wd sZ::(1,0,x)::sT [40]::(vC ps++(sT [41]::((if r.k=14 then [] else sT [58]::nO r)++qH b)))
def uM (x:List UInt8) (fs:List Tr):List T3:=wd jJ::(2,0,x)::sT [123]::(rM fs++[sT [125]])
def o9:Tr→List T3
 | .nd k _ _ n x ks=>if k=2 then uM x ks else match ks.drop n.toNat with
   | r::b::_=>BD x (ks.take n.toNat) r b
   | _=>[]
def ku:List Tr→List T3
 | []=>[]
 | t::ts=>o9 t++ku ts
section
variable (l c n:Int) (x:List UInt8) (i:Nat)
theorem aa3 (a b:Tr):stx i (.nd 7 l c n x [a,b])=l9++(32::(x++(58::32::(kZ a++(32::61::32::(tx b++[59])))))):=by rw[stx.eq_def];simp
theorem aa2 (a b:Tr):stx i (.nd 8 l c n x [a,b])=tx a++(32::61::32::(tx b++[59])):=by rw[stx.eq_def];simp
theorem YS (a b:Tr) (cs:List Tr):stx i (.nd 9 l c n x (a::b::cs))=uO++(32::(tx a++(32::(tN i b++etx i cs)))):=by rw[stx.eq_def];simp
theorem U2 (a b:Tr):stx i (.nd 10 l c n x [a,b])=fU++(32::(tx a++(32::tN i b))):=by rw[stx.eq_def];simp
theorem YT:stx i (.nd 11 l c n x [])=dE++[59]:=by rw[stx.eq_def];simp
theorem YU (a:Tr):stx i (.nd 11 l c n x [a])=dE++(32::(tx a++[59])):=by rw[stx.eq_def];simp
theorem U1 (a:Tr):stx i (.nd 12 l c n x [a])=gm++(32::(tx a++[59])):=by rw[stx.eq_def];simp
theorem acX (a:Tr):stx i (.nd 13 l c n x [a])=tx a++[59]:=by rw[stx.eq_def];simp
theorem Vy (k:Int) (ks:List Tr):tN i (.nd k l c n x ks)=123::(pM (i+1) ks++(Rj i++[125])):=by rw[tN.eq_def]
theorem Ai (a b:Tr):sto (.nd 7 l c n x [a,b])=wd l9::(1,0,x)::sT [58]::(nO a++(sT [61]::(dN b++[sT [59]]))):=by rw[sto.eq_def];simp
theorem Ag (a b:Tr):sto (.nd 8 l c n x [a,b])=dN a++(sT [61]::(dN b++[sT [59]])):=by rw[sto.eq_def];simp
theorem sV (a b:Tr) (cs:List Tr):sto (.nd 9 l c n x (a::b::cs))=wd uO::(dN a++(qH b++eto cs)):=by rw[sto.eq_def];simp
theorem ut (a b:Tr):sto (.nd 10 l c n x [a,b])=wd fU::(dN a++qH b):=by rw[sto.eq_def];simp
theorem wW:sto (.nd 11 l c n x [])=[wd dE,sT [59]]:=by rw[sto.eq_def];simp
theorem wY (a:Tr):sto (.nd 11 l c n x [a])=wd dE::(dN a++[sT [59]]):=by rw[sto.eq_def];simp
theorem uq (a:Tr):sto (.nd 12 l c n x [a])=wd gm::(dN a++[sT [59]]):=by rw[sto.eq_def];simp
theorem IG (a:Tr):sto (.nd 13 l c n x [a])=dN a++[sT [59]]:=by rw[sto.eq_def];simp
theorem pz (k:Int) (ks:List Tr):qH (.nd k l c n x ks)=sT [123]::(lZ ks++[sT [125]]):=by rw[qH.eq_def]
end
theorem OJ {u:List UInt8} {T:List T3} (h:LX u T):∀ i,LX (Rj i++u) T:=by
 have tabs:∀ i,LX (List.replicate i 9++u) T:=by
  intro i
  induction i with
  | zero=>exact h
  | succ i ih=>rw[List.replicate_succ,List.cons_append];exact dA 9 (by decide) ih
 intro i
 exact dA 10 (by decide) (tabs i)
theorem Ee {x u:List UInt8} {T:List T3} (hx:x∈([l9,uO,ou,fU,dE,gm,jJ,sZ]:List (List UInt8))) (hu:D7 u) (h:LX u T):LX (x++u) (wd x::T):=by
 have hh:∀ x∈([l9,uO,ou,fU,dE,gm,jJ,sZ]:List (List UInt8)),lD (bt x 0)=1∧(∀ c∈x,inB c.toNat=true)∧lN x=true:=by decide
 obtain⟨h1,h2,h3⟩:=hh x hx
 exact mG h1 h2 h3 hu h
theorem abC {u:List UInt8} {T:List T3} (h:LX u T):LX (32::61::32::u) (sT [61]::T):=dA 32 (by decide) (OL (by decide) (fun r e=>by cases e) (dA 32 (by decide) h))
theorem Ld {k:Int} {t:Tr} (w:xJ k t) {u:List UInt8} {T:List T3} (hu:D7 u) (h:LX u T):LX (Nj t++u) (Au t++T):=by
 cases w with
 | mk l c x hx a ha=>
   have e1:Nj (.nd k l c 0 x [a])++u=x++(58::32::(kZ a++u)):=by simp[Nj]
   have e2:Au (.nd k l c 0 x [a])++T=(1,0,x)::sT [58]::(nO a++T):=by simp[Au]
   rw[e1,e2]
   exact qh hx (cZ (by decide) _) (dW (by decide) (dA 32 (by decide) (zY ha hu h)))
theorem aaf {ts:List Tr} (w:oG ts):∀ {i:Nat} {u:List UInt8} {T:List T3},LX u T→LX (pM i ts++u) (lZ ts++T):=by
 refine oG.rec (motive_1:=fun t _=>∀ {i:Nat} {u:List UInt8} {T:List T3},LX u T→LX (stx i t++u) (sto t++T)) (motive_2:=fun t _=>∀ {i:Nat} {u:List UInt8} {T:List T3},LX u T→LX (tN i t++u) (qH t++T)) (motive_3:=fun ts _=>∀ {i:Nat} {u:List UInt8} {T:List T3},LX u T→LX (pM i ts++u) (lZ ts++T)) ?_ ?_ ?_ ?_ ?_ ?_ ?_ ?_ ?_ ?_ ?_ ?_ w
 · intro l c x hx a b ha hb i u T h
   have e1:stx i (.nd 7 l c 0 x [a,b])++u=l9++(32::(x++(58::32::(kZ a++(32::61::32::(tx b++(59::u))))))):=by rw[aa3];simp
   have e2:sto (.nd 7 l c 0 x [a,b])++T=wd l9::(1,0,x)::sT [58]::(nO a++(sT [61]::(dN b++(sT [59]::T)))):=by rw[Ai];simp
   rw[e1,e2]
   exact Ee (by decide) (cZ (by decide) _) (dA 32 (by decide) (qh hx (cZ (by decide) _) (dW (by decide) (dA 32 (by decide) (zY ha (cZ (by decide) _) (abC (mF hb (cZ (by decide) _) (dW (by decide) h))))))))
 · intro l c a b ha _ hb i u T h
   have e1:stx i (.nd 8 l c 0 [] [a,b])++u=tx a++(32::61::32::(tx b++(59::u))):=by rw[aa2];simp
   have e2:sto (.nd 8 l c 0 [] [a,b])++T=dN a++(sT [61]::(dN b++(sT [59]::T))):=by rw[Ag];simp
   rw[e1,e2]
   exact mF ha (cZ (by decide) _) (abC (mF hb (cZ (by decide) _) (dW (by decide) h)))
 · intro l c a b ha _ ib i u T h
   have e1:stx i (.nd 9 l c 0 [] [a,b])++u=uO++(32::(tx a++(32::(tN i b++u)))):=by rw[YS];simp[etx]
   have e2:sto (.nd 9 l c 0 [] [a,b])++T=wd uO::(dN a++(qH b++T)):=by rw[sV];simp[eto]
   rw[e1,e2]
   exact Ee (by decide) (cZ (by decide) _) (dA 32 (by decide) (mF ha (cZ (by decide) _) (dA 32 (by decide) (ib h))))
 · intro l c a b e ha _ _ ib ie i u T h
   have e1:stx i (.nd 9 l c 0 [] [a,b,e])++u=uO++(32::(tx a++(32::(tN i b++(32::(ou++(32::(tN i e++u)))))))):=by rw[YS];simp[etx]
   have e2:sto (.nd 9 l c 0 [] [a,b,e])++T=wd uO::(dN a++(qH b++(wd ou::(qH e++T)))):=by rw[sV];simp[eto]
   rw[e1,e2]
   exact Ee (by decide) (cZ (by decide) _) (dA 32 (by decide) (mF ha (cZ (by decide) _) (dA 32 (by decide) (ib (dA 32 (by decide) (Ee (by decide) (cZ (by decide) _) (dA 32 (by decide) (ie h))))))))
 · intro l c a b ha _ ib i u T h
   have e1:stx i (.nd 10 l c 0 [] [a,b])++u=fU++(32::(tx a++(32::(tN i b++u)))):=by rw[U2];simp
   have e2:sto (.nd 10 l c 0 [] [a,b])++T=wd fU::(dN a++(qH b++T)):=by rw[ut];simp
   rw[e1,e2]
   exact Ee (by decide) (cZ (by decide) _) (dA 32 (by decide) (mF ha (cZ (by decide) _) (dA 32 (by decide) (ib h))))
 · intro l c i u T h
   have e1:stx i (.nd 11 l c 0 [] [])++u=dE++(59::u):=by rw[YT];simp
   rw[e1,wW]
   exact Ee (by decide) (cZ (by decide) _) (dW (by decide) h)
 · intro l c a ha i u T h
   have e1:stx i (.nd 11 l c 0 [] [a])++u=dE++(32::(tx a++(59::u))):=by rw[YU];simp
   have e2:sto (.nd 11 l c 0 [] [a])++T=wd dE::(dN a++(sT [59]::T)):=by rw[wY];simp
   rw[e1,e2]
   exact Ee (by decide) (cZ (by decide) _) (dA 32 (by decide) (mF ha (cZ (by decide) _) (dW (by decide) h)))
 · intro l c a ha i u T h
   have e1:stx i (.nd 12 l c 0 [] [a])++u=gm++(32::(tx a++(59::u))):=by rw[U1];simp
   have e2:sto (.nd 12 l c 0 [] [a])++T=wd gm::(dN a++(sT [59]::T)):=by rw[uq];simp
   rw[e1,e2]
   exact Ee (by decide) (cZ (by decide) _) (dA 32 (by decide) (mF ha (cZ (by decide) _) (dW (by decide) h)))
 · intro l c a ha _ i u T h
   have e1:stx i (.nd 13 l c 0 [] [a])++u=tx a++(59::u):=by rw[acX];simp
   have e2:sto (.nd 13 l c 0 [] [a])++T=dN a++(sT [59]::T):=by rw[IG];simp
   rw[e1,e2]
   exact mF ha (cZ (by decide) _) (dW (by decide) h)
 · intro l c ks _ ih i u T h
   have e1:tN i (.nd 6 l c 0 [] ks)++u=123::(pM (i+1) ks++(Rj i++(125::u))):=by rw[Vy];simp
   have e2:qH (.nd 6 l c 0 [] ks)++T=sT [123]::(lZ ks++(sT [125]::T)):=by rw[pz];simp
   rw[e1,e2]
   exact dW (by decide) (ih (OJ (dW (by decide) h) i))
 · intro i u T h;exact h
 · intro t ts _ _ it its i u T h
   have e1:pM i (t::ts)++u=Rj i++(stx i t++(pM i ts++u)):=by simp[pM]
   have e2:lZ (t::ts)++T=sto t++(lZ ts++T):=by simp[lZ]
   rw[e1,e2]
   exact OJ (it (its h)) i
theorem Lc {b:Tr} (w:Nc b) {i:Nat} {u:List UInt8} {T:List T3} (h:LX u T):LX (tN i b++u) (qH b++T):=by
 cases w with
 | blk l c ks hs=>
   have e1:tN i (.nd 6 l c 0 [] ks)++u=123::(pM (i+1) ks++(Rj i++(125::u))):=by rw[Vy];simp
   have e2:qH (.nd 6 l c 0 [] ks)++T=sT [123]::(lZ ks++(sT [125]::T)):=by rw[pz];simp
   rw[e1,e2]
   exact dW (by decide) (aaf hs (OJ (dW (by decide) h) i))
theorem FB:∀ {fs:List Tr},(∀ t∈fs,xJ 3 t)→∀ {u:List UInt8} {T:List T3},LX u T→LX (pG fs++u) (rM fs++T)
 | [],_,u,T,h=>h
 | t::ts,w,u,T,h=>by
   have e1:pG (t::ts)++u=10::9::(Nj t++(59::(pG ts++u))):=by simp[pG]
   have e2:rM (t::ts)++T=Au t++(sT [59]::(rM ts++T)):=by simp[rM]
   rw[e1,e2]
   exact dA 10 (by decide) (dA 9 (by decide) (Ld (w t (by simp)) (cZ (by decide) _) (dW (by decide) (FB (fun y hy=>w y (by simp[hy])) h))))
theorem Yq (ts:List Tr) {u:List UInt8} (hu:D7 u):D7 (qA ts++u):=by
 cases ts with
 | nil=>exact hu
 | cons t ts=>exact cZ (by decide) _
theorem FC:∀ {ps:List Tr},(∀ t∈ps,xJ 5 t)→∀ {u:List UInt8} {T:List T3},D7 u→LX u T→LX (qA ps++u) (qx ps++T)∧LX (qy ps++u) (vC ps++T)
 | [],_,u,T,_,h=>⟨h,h⟩
 | t::ts,w,u,T,hu,h=>by
   obtain⟨h1,_⟩:=FC (ps:=ts) (fun y hy=>w y (by simp[hy])) hu h
   have e1:qA (t::ts)++u=44::32::(Nj t++(qA ts++u)):=by simp[qA]
   have e2:qx (t::ts)++T=sT [44]::(Au t++(qx ts++T)):=by simp[qx]
   have e3:qy (t::ts)++u=Nj t++(qA ts++u):=by simp[qy]
   have e4:vC (t::ts)++T=Au t++(qx ts++T):=by simp[vC]
   have key:=Ld (w t (by simp)) (Yq ts hu) h1
   rw[e1,e2,e3,e4]
   exact⟨dW (by decide) (dA 32 (by decide) key),key⟩
theorem PV (l c:Int) (x:List UInt8) (ps:List Tr) (r b:Tr):lM (.nd 4 l c ps.length x (ps++[r,b]))=Eb x ps r b∧o9 (.nd 4 l c ps.length x (ps++[r,b]))=BD x ps r b:=by
 simp[lM,o9]
theorem abV {t:Tr} (w:vK t):15≤t.k∧t.k≤20:=by
 cases w with
 | word k l c h=>show 15≤k∧k≤20;omega
 | big=>exact⟨by simp[Tr.k],by simp[Tr.k]⟩
 | list=>exact⟨by simp[Tr.k],by simp[Tr.k]⟩
theorem acu {t:Tr} (w:lg t) {u:List UInt8} {T:List T3} (h:LX u T):LX (lM t++u) (o9 t++T):=by
 cases w with
 | rc l c x hx fs hf=>
   have e1:lM (.nd 2 l c 0 x fs)++u=jJ++(32::(x++(32::123::(pG fs++(10::125::u))))):=by simp[lM,y9]
   have e2:o9 (.nd 2 l c 0 x fs)++T=wd jJ::(2,0,x)::sT [123]::(rM fs++(sT [125]::T)):=by simp[o9,uM]
   rw[e1,e2]
   exact Ee (by decide) (cZ (by decide) _) (dA 32 (by decide) (BX hx (cZ (by decide) _) (dA 32 (by decide) (dW (by decide) (FB hf (dA 10 (by decide) (dW (by decide) h)))))))
 | fn l c x hx ps hp r b hr hb=>
   rw[(PV l c x ps r b).1,(PV l c x ps r b).2]
   have key:LX ((if r.k=14 then [] else 58::32::kZ r)++(32::(tN 0 b++u))) ((if r.k=14 then [] else sT [58]::nO r)++(qH b++T)):=by
    rcases hr with rfl | hr
    · exact dA 32 (by decide) (Lc hb h)
    · have:=abV hr
      rw[if_neg (by omega),if_neg (by omega)]
      exact dW (by decide) (dA 32 (by decide) (zY hr (cZ (by decide) _) (dA 32 (by decide) (Lc hb h))))
   have e1:Eb x ps r b++u=sZ++(32::(x++(40::(qy ps++(41::((if r.k=14 then [] else 58::32::kZ r)++(32::(tN 0 b++u)))))))):=by simp[Eb]
   have e2:BD x ps r b++T=wd sZ::(1,0,x)::sT [40]::(vC ps++(sT [41]::((if r.k=14 then [] else sT [58]::nO r)++(qH b++T)))):=by simp[BD]
   rw[e1,e2]
   exact Ee (by decide) (cZ (by decide) _) (dA 32 (by decide) (qh hx (cZ (by decide) _) (dW (by decide) (FC hp (cZ (by decide) _) (dW (by decide) key)).2)))
theorem Q5:∀ {ks:List Tr},(∀ t∈ks,lg t)→∀ {u:List UInt8} {T:List T3},LX u T→LX (eU ks++u) (ku ks++T)
 | [],_,u,T,h=>h
 | t::ts,w,u,T,h=>by
   have e1:eU (t::ts)++u=lM t++(10::(eU ts++u)):=by simp[eU]
   have e2:ku (t::ts)++T=o9 t++(ku ts++T):=by simp[ku]
   rw[e1,e2]
   exact acu (w t (by simp)) (dA 10 (by decide) (Q5 (fun y hy=>w y (by simp[hy])) h))
end Go.Proofs.YtllbpdllkkcajaaGreatDoor
namespace Go.Proofs.YtllbpdllkkcajaaGreatDoor
open Go.RowKit
attribute [local go_sem] bI bH aj ah ag aS ax aQ ak says_again BE.den IE.den SE.den LE.den AE.den CE.den PE.den VE.den KV.val dO.den dO.cnt jO fD jX allL Ctx.push Ctx.heap Ctx.cut Ctx.bare Ctx.mark Inc.blank List.getD_cons_zero List.getD_cons_succ List.cons_append List.nil_append List.append_nil List.map_cons List.map_nil List.replicate_zero List.replicate_succ az dm bY dh cO dK dJ bC bz bD bW bV aH aX aI aG au aP aO dH af and_assoc
def Kv:Fm:=(.Z 0
 (.Z 0
 (.O (.pt 0 3) 1 [.J 0] ⟨1,0,0,0,0,0⟩
 (.C 136 [.W [9],.J 0] (.p (.S 0)) ⟨0,0,1,0,0,0⟩
 (.mk [(.s (.c [10])),(.s (.x 0))] 9 2
 (.V 41 [.P 0,.L 0]
 .E))))))
theorem Ub:bG ⟨true,[]⟩ Tryz.prog (fun l=>([]:List bZ).getD l ⟨[],[],[]⟩) Tryz.f102=Kv:=by kernel_rfl
theorem Yi:aF Tryz.prog .zero Tryz.f102.params.toList=some ([.P 0],⟨0,0,0,0,0,1⟩):=by kernel_rfl
def Kz:Fm:=(.Z 0
 (.Z 0
 (.O (.pt 0 0) 1 [(.sl (.x 0))] ⟨0,0,0,0,1,0⟩
 (.N (.X (.x 0) (.x 0))
 (.O (.el (.x 0) (.x 0) 6 0) 6 [.U 1,.J 2,.J 3,.J 4,.J 5,(.s (.x 0))] ⟨5,0,1,0,0,0⟩
 (.C 38 [.P 0,.J 0] (.p (.L 1)) ⟨0,0,0,0,1,0⟩
 (.ite (.eqI (.x 1) (.c 7))
 (.O (.el (.x 1) (.c 0) 1 0) 1 [.J 6] ⟨1,0,0,0,0,0⟩
 (.N (.X (.c 0) (.x 1))
 (.callK (.c true) [((.c true),(.el (.x 1) (.c 0) 1 0),1)] 28 [.P 0,.J 6] (.p (.S 1)) ⟨0,0,1,0,0,0⟩
 (.mk [(.s (.c [118,97,114,32])),(.s (.x 0)),(.s (.c [58,32])),(.s (.x 1)),(.s (.c [32,61,32]))] 9 5
 (.V 41 [.P 0,.L 2]
 (.N (.X (.c 1) (.x 1))
 (.O (.el (.x 1) (.c 1) 1 0) 1 [.J 7] ⟨1,0,0,0,0,0⟩
 (.V 26 [.P 0,.J 7]
 (.mk [(.s (.c [59]))] 9 1
 (.V 41 [.P 0,.L 3]
 .E))))))))))
 (.ite (.eqI (.x 1) (.c 8))
 (.N (.X (.c 0) (.x 1))
 (.O (.el (.x 1) (.c 0) 1 0) 1 [.J 6] ⟨1,0,0,0,0,0⟩
 (.V 26 [.P 0,.J 6]
 (.mk [(.s (.c [32,61,32]))] 9 1
 (.V 41 [.P 0,.L 2]
 (.N (.X (.c 1) (.x 1))
 (.O (.el (.x 1) (.c 1) 1 0) 1 [.J 7] ⟨1,0,0,0,0,0⟩
 (.V 26 [.P 0,.J 7]
 (.mk [(.s (.c [59]))] 9 1
 (.V 41 [.P 0,.L 3]
 .E))))))))))
 (.ite (.eqI (.x 1) (.c 9))
 (.mk [(.s (.c [105,102,32]))] 9 1
 (.V 41 [.P 0,.L 2]
 (.N (.X (.c 0) (.x 1))
 (.O (.el (.x 1) (.c 0) 1 0) 1 [.J 6] ⟨1,0,0,0,0,0⟩
 (.V 26 [.P 0,.J 6]
 (.mk [(.s (.c [32]))] 9 1
 (.V 41 [.P 0,.L 3]
 (.N (.X (.c 1) (.x 1))
 (.O (.el (.x 1) (.c 1) 1 0) 1 [.J 7] ⟨1,0,0,0,0,0⟩
 (.V 67 [.P 0,.J 7]
 (.ite (.eqI (.cnt (.x 1)) (.c 3))
 (.mk [(.s (.c [32,101,108,115,101,32]))] 9 1
 (.V 41 [.P 0,.L 4]
 (.N (.X (.c 2) (.x 1))
 (.O (.el (.x 1) (.c 2) 1 0) 1 [.J 8] ⟨1,0,0,0,0,0⟩
 (.V 67 [.P 0,.J 8]
 .E)))))
 .E)))))))))))
 (.ite (.eqI (.x 1) (.c 10))
 (.mk [(.s (.c [119,104,105,108,101,32]))] 9 1
 (.V 41 [.P 0,.L 2]
 (.N (.X (.c 0) (.x 1))
 (.O (.el (.x 1) (.c 0) 1 0) 1 [.J 6] ⟨1,0,0,0,0,0⟩
 (.V 26 [.P 0,.J 6]
 (.mk [(.s (.c [32]))] 9 1
 (.V 41 [.P 0,.L 3]
 (.N (.X (.c 1) (.x 1))
 (.O (.el (.x 1) (.c 1) 1 0) 1 [.J 7] ⟨1,0,0,0,0,0⟩
 (.V 67 [.P 0,.J 7]
 .E))))))))))
 (.ite (.eqI (.x 1) (.c 11))
 (.mk [(.s (.c [114,101,116,117,114,110]))] 9 1
 (.V 41 [.P 0,.L 2]
 (.loop 0 ⟨[(.c 0)],[],[],[],[],[]⟩
 (.ite (.lt (.x 6) (.cnt (.x 1)))
 (.N (.X (.x 6) (.x 1))
 (.O (.el (.x 1) (.x 6) 1 0) 1 [.J 7] ⟨1,0,0,0,0,0⟩
 (.mk [(.s (.c [32]))] 9 1
 (.V 41 [.P 0,.L 3]
 (.V 26 [.P 0,.J 7]
 (.N (.R (.add (.x 6) (.c 1)))
 (.again 0 ⟨6,0,1,0,3,1⟩ ⟨7,0,1,0,3,1⟩ ⟨[(.add (.x 6) (.c 1))],[],[],[],[],[]⟩)))))))
 (.mk [(.s (.c [59]))] 9 1
 (.V 41 [.P 0,.L 3]
 .E))))))
 (.ite (.eqI (.x 1) (.c 12))
 (.mk [(.s (.c [112,114,105,110,116,32]))] 9 1
 (.V 41 [.P 0,.L 2]
 (.N (.X (.c 0) (.x 1))
 (.O (.el (.x 1) (.c 0) 1 0) 1 [.J 6] ⟨1,0,0,0,0,0⟩
 (.V 26 [.P 0,.J 6]
 (.mk [(.s (.c [59]))] 9 1
 (.V 41 [.P 0,.L 3]
 .E)))))))
 (.ite (.eqI (.x 1) (.c 13))
 (.N (.X (.c 0) (.x 1))
 (.O (.el (.x 1) (.c 0) 1 0) 1 [.J 6] ⟨1,0,0,0,0,0⟩
 (.V 26 [.P 0,.J 6]
 (.mk [(.s (.c [59]))] 9 1
 (.V 41 [.P 0,.L 2]
 .E)))))
 (.mk [(.s (.c [59]))] 9 1
 (.V 41 [.P 0,.L 2]
 .E)))))))))))))))
theorem Ue:bG ⟨true,[]⟩ Tryz.prog (fun l=>([⟨[106],[107,108,109,7,110,111,112,113,114,115,116],[]⟩]:List bZ).getD l ⟨[],[],[]⟩) Tryz.f103=Kz:=by kernel_rfl
theorem Yl:aF Tryz.prog .zero Tryz.f103.params.toList=some ([.P 0,.J 0],⟨1,0,0,0,0,1⟩):=by kernel_rfl
theorem Px (n:Nat):Lib.repeatL [9] n=List.replicate n (9:UInt8):=by
 induction n with
 | zero=>rfl
 | succ n ih=>rw[List.replicate_succ,← ih];rfl
def Jm:Ct Tryz.prog where
 f:=136
 spec:=fun args h φ=>∃ n:Nat,args=[.string (B [9]),.int .i64 (n:Nat)]∧n≤1000000∧φ (.string (B (List.replicate n 9))) h
 ok:=by
  rintro args h φ w ⟨n,rfl,hn,hφ⟩ hH
  refine (Tryz.strings_Repeat (B [9]) n w (by omega) (by rw[gQ];show 1*n≤_;omega)).mono ?_
  rintro e w' ⟨rfl,hb⟩
  rw[show (B [9]).data.toList=[9] by simp[B],Px]
  exact⟨_,h,rfl,hφ,hH.below hb,Fr.of_below hb⟩
theorem Ry {h:Hp} {b:Nat} {lsl sl:bT} {l:List Ng} {used:Bool} {i j:Int} {acc:List UInt8} (X:ng h b lsl l used sl i acc):lC h (some (b,0+3)) [.int .i64 j]=some (h.set b ⟨prn b lsl used sl j,yI⟩)∧ng (h.set b ⟨prn b lsl used sl j,yI⟩) b lsl l used sl j acc∧qF h (h.set b ⟨prn b lsl used sl j,yI⟩) b sl sl:=by
 have hb:=X.prn.at_
 have G:qF h (h.set b ⟨prn b lsl used sl j,yI⟩) b sl sl:=⟨fun c o hc _ ho=>by rw[aU _ hc];exact ho,fun z hz=>.inl ⟨z,hz,rfl⟩⟩
 refine⟨?_,X.go ⟨au _ _ _,nz X.prn.own X.prn.ne _,X.prn.n,X.prn.ne,X.prn.fit,X.prn.pos⟩ G,G⟩
 unfold lC
 simp only[hb]
 rw[if_pos (by simp[prn])]
 rfl
def Qo:Ct Tryz.prog where
 f:=102
 spec:=fun args h φ=>∃ b lsl l used sl,∃ inn:Nat,∃ acc,args=[.pointer (some ⟨b,0,none⟩)]∧ng h b lsl l used sl (inn:Nat) acc∧inn≤1000000∧acc.length+(inn+1)≤1000000000000∧Writes h b lsl l sl (inn:Nat) (acc++Rj inn) φ
 ok:=by
  rintro args h φ w ⟨b,lsl,l,used,sl,inn,acc,rfl,X,hi,hl,hφ⟩ hH
  refine bJ Tryz.func102 Ub Yi [Jm,iK] φ (di) (bF) ⟨[],[],[],[],[],[some (b,0)],h,dM⟩ ⟨rfl,rfl,rfl,rfl,rfl,rfl⟩ af ?_ w hH rfl
  generalize hE:(⟨az _,_,_,_⟩:Env)=E
  have s_ctRepeat:E.spec 136=(Jm).spec:=by rw[← hE];rfl
  have s_ctYPut:E.spec 41=(iK).spec:=by rw[← hE];rfl
  have ep:E.post=φ:=by rw[← hE]
  clear hE
  unfold Kv
  have hb:=X.prn.at_
  rw[← ae]
  rw[ae,aj];refine⟨by simp[go_sem]<;>omega,?_⟩
  rw[ae,aj];refine⟨by simp[go_sem]<;>omega,?_⟩
  rw[ae,ax,if_pos (by rfl)]
  refine (ai _ _).2 ⟨⟨[(inn:Int)],[],[],[],[],[]⟩,rfl,af,by simp[go_sem,bu hb,prn],?_⟩
  rw[ae,ag,if_pos (by rfl),s_ctRepeat]
  refine⟨inn,rfl,hi,?_⟩
  refine⟨fun h=>(by cases h),(ai _ _).2 ⟨⟨[],[],[List.replicate inn 9],[],[],[]⟩,rfl,af,rfl,?_⟩⟩
  rw[ae,aT];intro b1 hb1
  rw[ae,ag,if_pos (by rfl),s_ctYPut]
  refine aY (ss:=[[10],List.replicate inn 9]) X hb1 (by simp;omega) (by simp) fun u1 s1 k1 X1 G1=>?_
  refine⟨fun h=>(by cases h),(ai _ _).2 ⟨⟨[],[],[],[],[],[]⟩,rfl,af,rfl,?_⟩⟩
  rw[ae,ak,ep]
  exact hφ u1 s1 k1 (by simpa[Rj] using X1) G1
section
variable (i:Nat) (l c n:Int) (x:List UInt8) (a b e:Tr)
theorem MZ:stx i (.nd 7 l c n x [a,b])=[118,97,114,32]++(x++([58,32]++(kZ a++([32,61,32]++(tx b++[59]))))):=by rw[stx.eq_def];simp[l9]
theorem MX:stx i (.nd 8 l c n x [a,b])=tx a++([32,61,32]++(tx b++[59])):=by rw[stx.eq_def];simp
theorem MV:stx i (.nd 9 l c n x [a,b])=[105,102,32]++(tx a++([32]++tN i b)):=by rw[stx.eq_def];simp[uO,etx]
theorem MW:stx i (.nd 9 l c n x [a,b,e])=[105,102,32]++(tx a++([32]++(tN i b++([32,101,108,115,101,32]++tN i e)))):=by rw[stx.eq_def];simp[uO,etx,ou]
theorem D6:stx i (.nd 10 l c n x [a,b])=[119,104,105,108,101,32]++(tx a++([32]++tN i b)):=by rw[stx.eq_def];simp[fU]
theorem yF:stx i (.nd 11 l c n x [])=[114,101,116,117,114,110]++[59]:=by rw[stx.eq_def];simp[dE]
theorem yG:stx i (.nd 11 l c n x [a])=[114,101,116,117,114,110]++([32]++(tx a++[59])):=by rw[stx.eq_def];simp[dE]
theorem D5:stx i (.nd 12 l c n x [a])=[112,114,105,110,116,32]++(tx a++[59]):=by rw[stx.eq_def];simp[gm]
theorem Su:stx i (.nd 13 l c n x [a])=tx a++[59]:=by rw[stx.eq_def];simp
theorem Sl (k:Int) (ks:List Tr):tN i (.nd k l c n x ks)=[123]++(pM (i+1) ks++(Rj i++[125])):=by rw[tN.eq_def];simp
end
def Zq (n:Nat) (args:List Value) (h:Hp) (φ:Value→Hp→Prop):Prop:=
 ∃ b lsl l used sl,∃ inn:Nat,∃ acc p t,args=[.pointer (some ⟨b,0,none⟩),.int .i64 (p:Nat)]∧ng h b lsl l used sl (inn:Nat) acc∧Ps l p t∧IR t∧t.n≤n∧l.length≤1000000∧inn+t.n≤1000000∧Fits acc (stx inn t)∧Writes h b lsl l sl (inn:Nat) (acc++stx inn t) φ
def abX (n:Nat) (args:List Value) (h:Hp) (φ:Value→Hp→Prop):Prop:=
 ∃ b lsl l used sl,∃ inn:Nat,∃ acc p t,args=[.pointer (some ⟨b,0,none⟩),.int .i64 (p:Nat)]∧ng h b lsl l used sl (inn:Nat) acc∧Ps l p t∧Nc t∧t.n≤n∧l.length≤1000000∧inn+t.n≤1000000∧Fits acc (tN inn t)∧Writes h b lsl l sl (inn:Nat) (acc++tN inn t) φ
def zI (n:Nat):Prop:=∀ args h φ w,Zq n args h φ→Holds h w→Calls Tryz.prog 103 args.toArray w fun e w'=>∃ v k,e=.returned v∧φ v k∧Holds k w'∧Fr w.heap.size h k w w'
def Gt (n:Nat):Prop:=∀ args h φ w,abX n args h φ→Holds h w→Calls Tryz.prog 67 args.toArray w fun e w'=>∃ v k,e=.returned v∧φ v k∧Holds k w'∧Fr w.heap.size h k w w'
def Qq {n:Nat} (H:zI n):Ct Tryz.prog:=⟨103,Zq n,H⟩
def GY {n:Nat} (H:Gt n):Ct Tryz.prog:=⟨67,abX n,H⟩
theorem iT {h:Hp} {s:bT} {ks:List Int} (R:jg h s ks) (j:Nat) (q:Nat) (hq:ks[j]? = some (q:Int)):∃ b o,s.a=some (b,o)∧j<s.n∧hread h (some (b,o+j*1+0)) 1=some [.int .i64 (q:Int)]:=by
 obtain⟨hj,e⟩:=List.getElem?_eq_some_iff.1 hq
 obtain⟨b,o,h1,h2⟩:=R.read hj
 rw[e] at h2
 exact⟨b,o,h1,by rw[R.n];exact hj,h2⟩
def YD (h:Hp) (b:Nat) (lsl:bT) (l:List Ng) (sl:bT) (inn:Int) (acc:List UInt8) (p:Nat) (t:Tr) (_:Nat) (C:Ctx):Prop:=
 ∃ (j:Nat) (u:Bool) (s s' s3:bT) (k:Hp),C=⟨[(p:Int),t.g.k,t.g.l,t.g.c,t.g.z,t.g.n,(j:Int)],[],[t.g.x],[],[lsl,s,s3],[some (b,0)],k,dM⟩∧j≤t.kl.length∧ng k b lsl l u s' inn (acc++([114,101,116,117,114,110]++(t.kl.take j).flatMap fun a=>[32]++tx a))∧qF h k b sl s'∧jg k s (places ((p+1:Nat):Int) t.kl)
set_option maxHeartbeats 8000000 in
set_option maxRecDepth 10000 in
theorem Zr {n:Nat} (ih:Gt n):zI (n+1):=by
 rintro args h φ w ⟨b,lsl,l,used,sl,inn,acc,p,t,rfl,X,P,W,hn,hl,hi,F,hφ⟩ hH
 refine bJ Tryz.func103 Ue Yl [kF,iK,mr (tC 1000000),GY ih,mD (lF 1000000)] φ (YD h b lsl l sl (inn:Nat) acc p t) (fun _ C=>((t.kl.length:Int) - C.i.getD 6 0).toNat) ⟨[((p:Nat):Int)],[],[],[],[],[some (b,0)],h,dM⟩ ⟨rfl,rfl,rfl,rfl,rfl,rfl⟩ af ?_ w hH rfl
 generalize hE:(⟨az _,_,_,_⟩:Env)=E
 have s_ctYKids:E.spec 38=(kF).spec:=by rw[← hE];rfl
 have s_ctYPut:E.spec 41=(iK).spec:=by rw[← hE];rfl
 have s_ctE:E.spec 26=(mr (tC 1000000)).spec:=by rw[← hE];rfl
 have s_ctB:E.spec 67=(GY ih).spec:=by rw[← hE];rfl
 have s_ctK:E.spec 28=(mD (lF 1000000)).spec:=by rw[← hE];rfl
 have ep:E.post=φ:=by rw[← hE]
 have ei:E.inv=(YD h b lsl l sl (inn:Nat) acc p t):=by rw[← hE]
 have em:E.meas=(fun _ C=>((t.kl.length:Int) - C.i.getD 6 0).toNat):=by rw[← hE]
 clear hE
 unfold Kz
 obtain⟨c0,o0,ha,hrd,hpn⟩:=X.node P
 obtain⟨hpl,hpt⟩:=P.node
 have hb:=X.prn.at_
 have hlt:=P.lt
 rw[← ae]
 rw[ae,aj];refine⟨by simp[go_sem]<;>omega,?_⟩
 rw[ae,aj];refine⟨by simp[go_sem]<;>omega,?_⟩
 rw[ae,ax,if_pos (by rfl)]
 refine (ai _ _).2 ⟨⟨[],[],[],[],[lsl],[]⟩,rfl,af,by simp[go_sem,bu hb,prn],?_⟩
 rw[ae,aj];refine⟨by simp[go_sem,ha]<;>omega,?_⟩
 obtain⟨k,ln,c,nn,x,ks⟩:=t
 rw[jk] at hlt hn hi
 have hks:=uI ks
 rw[ae,ax,if_pos (by rfl)]
 refine (ai _ _).2 ⟨⟨[k,ln,c,((Tr.ns ks:Nat):Int),nn],[],[x],[],[],[]⟩,rfl,af,by simpa[go_sem,ha,Ng.cs,Tr.g] using hrd,?_⟩
 rw[ae,ag,if_pos (by rfl),s_ctYKids]
 refine⟨b,lsl,l,p,((Tr.ns ks:Nat):Int),ks.length,places ((p:Nat)+1) ks,_,_,rfl,hb,X.row,hl,by omega,⟨l[p],List.getElem?_eq_getElem hpl,by rw[hpt];rfl⟩,by omega,by omega,P.iU (Nat.le_refl _),fun s k1 hle ho hsn=>?_⟩
 refine⟨fun h=>(by cases h),(ai _ _).2 ⟨⟨[],[],[],[],[s],[]⟩,rfl,af,rfl,?_⟩⟩
 have X1:=X.le hle
 have R:=jg.own ho hsn
 have hle':dP h k1:=hle
 have fin:Writes k1 b lsl l sl (inn:Nat) (acc++stx inn (.nd k ln c nn x ks)) φ:=fun u2 s2 k2 Y G=>hφ u2 s2 k2 Y (G.le hle)
 have ps:((p:Nat):Int)+1=((p+1:Nat):Int):=by omega
 rw[ps] at R
 have hn':Tr.ns ks≤n:=by omega
 have hφ':=hφ
 clear hφ ho hle
 have PK:=P.kids
 cases W with
 | var _ _ _ h0 a a2 w1 w2=>
   rw[ae,ah,if_pos (by simp[go_sem])]
   rw[MZ] at F fin
   obtain⟨P1,PK2⟩:=PK.cons
   have P2:=PK2.cons.1
   rw[aA,aA,bg] at hn' hi
   have hs2:s.n=2:=R.n
   have hkp:qc l 1000000 (p+1)=some (kZ a):=lW w1 P1 (by have:=P1.lt;omega)
   generalize kZ a=kt at F fin hkp
   obtain⟨q_0,y_0,hq_0,hj_0,hr_0⟩:=iT R 0 (p+1) (by simp[places])
   rw[ae,ax,if_pos (by rfl)]
   refine (ai _ _).2 ⟨⟨[((p+1:Nat):Int)],[],[],[],[],[]⟩,rfl,af,by simpa[go_sem,hq_0] using hr_0,?_⟩
   rw[ae,aj];refine⟨by simp[go_sem,hq_0]<;>omega,?_⟩
   rw[ae,aS,if_pos (by rfl),s_ctK]
   refine⟨b,lsl,l,p+1,kt,_,_,rfl,X1.prn.at_,X1.row,hl,hkp,?_,?_⟩
   · have:=(F.sub (a:=[118,97,114,32]++(x++[58,32])) (b:=kt) (c:=[32,61,32]++(tx a2++[59])) (by simp)).1
     omega
   refine⟨fun _ _ _=>rfl,(ai _ _).2 ⟨⟨[],[],[kt],[],[],[]⟩,rfl,af,rfl,?_⟩⟩
   rw[ae,aT];intro b_1 hb_1
   rw[ae,ag,if_pos (by rfl),s_ctYPut]
   refine aY (ss:=[[118,97,114,32],x,[58,32],kt,[32,61,32]]) X1 hb_1 (by have hF:=F.2;simp only[List.length_append,List.length_cons,List.length_nil,List.flatten_cons,List.flatten_nil] at hF ⊢;omega) (by simp) fun u_1 s_1 k_1 X_1 G_1=>?_
   refine⟨fun h=>(by cases h),(ai _ _).2 ⟨⟨[],[],[],[],[],[]⟩,rfl,af,rfl,?_⟩⟩
   have R_1:=R.go X1.prn G_1
   obtain⟨q_2,y_2,hq_2,hj_2,hr_2⟩:=iT R_1 1 (p+1+a.n) (by simp[places]<;>omega)
   rw[ae,aj];refine⟨by simp[go_sem,hq_2]<;>omega,?_⟩
   rw[ae,ax,if_pos (by rfl)]
   refine (ai _ _).2 ⟨⟨[((p+1+a.n:Nat):Int)],[],[],[],[],[]⟩,rfl,af,by simpa[go_sem,hq_2] using hr_2,?_⟩
   rw[ae,ag,if_pos (by rfl),s_ctE]
   refine⟨b,lsl,l,u_1,s_1,inn,_,p+1+a.n,a2,rfl,X_1,P2,w2,by have:=P2.lt;omega,hl,⟨(by have hF:=F.2;simp only[List.length_append,List.length_cons,List.length_nil] at hF ⊢;omega),(by have hF:=F.2;simp only[List.length_append,List.length_cons,List.length_nil,List.flatten_cons,List.flatten_nil] at hF ⊢;omega)⟩,fun u_2 s_2 k_2 X_2 G_2=>?_⟩
   refine⟨fun h=>(by cases h),(ai _ _).2 ⟨⟨[],[],[],[],[],[]⟩,rfl,af,rfl,?_⟩⟩
   have R_2:=R_1.go X_1.prn G_2
   rw[ae,aT];intro b_3 hb_3
   rw[ae,ag,if_pos (by rfl),s_ctYPut]
   refine aY (ss:=[[59]]) X_2 hb_3 (by have hF:=F.2;simp only[List.length_append,List.length_cons,List.length_nil,List.flatten_cons,List.flatten_nil] at hF ⊢;omega) (by simp) fun u_3 s_3 k_3 X_3 G_3=>?_
   refine⟨fun h=>(by cases h),(ai _ _).2 ⟨⟨[],[],[],[],[],[]⟩,rfl,af,rfl,?_⟩⟩
   have R_3:=R_2.go X_2.prn G_3
   rw[ae,ak,ep]
   exact fin u_3 s_3 k_3 (by simpa using X_3) ((G_1.trans G_2 X_1.prn.nn).trans G_3 X_2.prn.nn)
 | set _ _ a a2 w1 _ w2=>
   iterate 1 (rw[ae,ah,if_neg (by simp[go_sem])])
   rw[ae,ah,if_pos (by simp[go_sem])]
   rw[MX] at F fin
   obtain⟨P1,PK2⟩:=PK.cons
   have P2:=PK2.cons.1
   rw[aA,aA,bg] at hn' hi
   have hs2:s.n=2:=R.n
   obtain⟨q_1,y_1,hq_1,hj_1,hr_1⟩:=iT R 0 (p+1) (by simp[places]<;>omega)
   rw[ae,aj];refine⟨by simp[go_sem,hq_1]<;>omega,?_⟩
   rw[ae,ax,if_pos (by rfl)]
   refine (ai _ _).2 ⟨⟨[((p+1:Nat):Int)],[],[],[],[],[]⟩,rfl,af,by simpa[go_sem,hq_1] using hr_1,?_⟩
   rw[ae,ag,if_pos (by rfl),s_ctE]
   refine⟨b,lsl,l,used,sl,inn,_,p+1,a,rfl,X1,P1,w1,by have:=P1.lt;omega,hl,⟨(by have hF:=F.2;simp only[List.length_append,List.length_cons,List.length_nil] at hF ⊢;omega),(by have hF:=F.2;simp only[List.length_append,List.length_cons,List.length_nil] at hF ⊢;omega)⟩,fun u_1 s_1 k_1 X_1 G_1=>?_⟩
   refine⟨fun h=>(by cases h),(ai _ _).2 ⟨⟨[],[],[],[],[],[]⟩,rfl,af,rfl,?_⟩⟩
   have R_1:=R.go X1.prn G_1
   rw[ae,aT];intro b_2 hb_2
   rw[ae,ag,if_pos (by rfl),s_ctYPut]
   refine aY (ss:=[[32,61,32]]) X_1 hb_2 (by have hF:=F.2;simp only[List.length_append,List.length_cons,List.length_nil,List.flatten_cons,List.flatten_nil] at hF ⊢;omega) (by simp) fun u_2 s_2 k_2 X_2 G_2=>?_
   refine⟨fun h=>(by cases h),(ai _ _).2 ⟨⟨[],[],[],[],[],[]⟩,rfl,af,rfl,?_⟩⟩
   have R_2:=R_1.go X_1.prn G_2
   obtain⟨q_3,y_3,hq_3,hj_3,hr_3⟩:=iT R_2 1 (p+1+a.n) (by simp[places]<;>omega)
   rw[ae,aj];refine⟨by simp[go_sem,hq_3]<;>omega,?_⟩
   rw[ae,ax,if_pos (by rfl)]
   refine (ai _ _).2 ⟨⟨[((p+1+a.n:Nat):Int)],[],[],[],[],[]⟩,rfl,af,by simpa[go_sem,hq_3] using hr_3,?_⟩
   rw[ae,ag,if_pos (by rfl),s_ctE]
   refine⟨b,lsl,l,u_2,s_2,inn,_,p+1+a.n,a2,rfl,X_2,P2,w2,by have:=P2.lt;omega,hl,⟨(by have hF:=F.2;simp only[List.length_append,List.length_cons,List.length_nil] at hF ⊢;omega),(by have hF:=F.2;simp only[List.length_append,List.length_cons,List.length_nil,List.flatten_cons,List.flatten_nil] at hF ⊢;omega)⟩,fun u_3 s_3 k_3 X_3 G_3=>?_⟩
   refine⟨fun h=>(by cases h),(ai _ _).2 ⟨⟨[],[],[],[],[],[]⟩,rfl,af,rfl,?_⟩⟩
   have R_3:=R_2.go X_2.prn G_3
   rw[ae,aT];intro b_4 hb_4
   rw[ae,ag,if_pos (by rfl),s_ctYPut]
   refine aY (ss:=[[59]]) X_3 hb_4 (by have hF:=F.2;simp only[List.length_append,List.length_cons,List.length_nil,List.flatten_cons,List.flatten_nil] at hF ⊢;omega) (by simp) fun u_4 s_4 k_4 X_4 G_4=>?_
   refine⟨fun h=>(by cases h),(ai _ _).2 ⟨⟨[],[],[],[],[],[]⟩,rfl,af,rfl,?_⟩⟩
   have R_4:=R_3.go X_3.prn G_4
   rw[ae,ak,ep]
   exact fin u_4 s_4 k_4 (by simpa using X_4) (((G_1.trans G_2 X_1.prn.nn).trans G_3 X_2.prn.nn).trans G_4 X_3.prn.nn)
 | if1 _ _ a a2 w1 w2=>
   iterate 2 (rw[ae,ah,if_neg (by simp[go_sem])])
   rw[ae,ah,if_pos (by simp[go_sem])]
   rw[MV] at F fin
   obtain⟨P1,PK2⟩:=PK.cons
   have P2:=PK2.cons.1
   rw[aA,aA,bg] at hn' hi
   have hs2:s.n=2:=R.n
   rw[ae,aT];intro b_1 hb_1
   rw[ae,ag,if_pos (by rfl),s_ctYPut]
   refine aY (ss:=[[105,102,32]]) X1 hb_1 (by have hF:=F.2;simp only[List.length_append,List.length_cons,List.length_nil,List.flatten_cons,List.flatten_nil] at hF ⊢;omega) (by simp) fun u_1 s_1 k_1 X_1 G_1=>?_
   refine⟨fun h=>(by cases h),(ai _ _).2 ⟨⟨[],[],[],[],[],[]⟩,rfl,af,rfl,?_⟩⟩
   have R_1:=R.go X1.prn G_1
   obtain⟨q_2,y_2,hq_2,hj_2,hr_2⟩:=iT R_1 0 (p+1) (by simp[places]<;>omega)
   rw[ae,aj];refine⟨by simp[go_sem,hq_2]<;>omega,?_⟩
   rw[ae,ax,if_pos (by rfl)]
   refine (ai _ _).2 ⟨⟨[((p+1:Nat):Int)],[],[],[],[],[]⟩,rfl,af,by simpa[go_sem,hq_2] using hr_2,?_⟩
   rw[ae,ag,if_pos (by rfl),s_ctE]
   refine⟨b,lsl,l,u_1,s_1,inn,_,p+1,a,rfl,X_1,P1,w1,by have:=P1.lt;omega,hl,⟨(by have hF:=F.2;simp only[List.length_append,List.length_cons,List.length_nil] at hF ⊢;omega),(by have hF:=F.2;simp only[List.length_append,List.length_cons,List.length_nil,List.flatten_cons,List.flatten_nil] at hF ⊢;omega)⟩,fun u_2 s_2 k_2 X_2 G_2=>?_⟩
   refine⟨fun h=>(by cases h),(ai _ _).2 ⟨⟨[],[],[],[],[],[]⟩,rfl,af,rfl,?_⟩⟩
   have R_2:=R_1.go X_1.prn G_2
   rw[ae,aT];intro b_3 hb_3
   rw[ae,ag,if_pos (by rfl),s_ctYPut]
   refine aY (ss:=[[32]]) X_2 hb_3 (by have hF:=F.2;simp only[List.length_append,List.length_cons,List.length_nil,List.flatten_cons,List.flatten_nil] at hF ⊢;omega) (by simp) fun u_3 s_3 k_3 X_3 G_3=>?_
   refine⟨fun h=>(by cases h),(ai _ _).2 ⟨⟨[],[],[],[],[],[]⟩,rfl,af,rfl,?_⟩⟩
   have R_3:=R_2.go X_2.prn G_3
   obtain⟨q_4,y_4,hq_4,hj_4,hr_4⟩:=iT R_3 1 (p+1+a.n) (by simp[places]<;>omega)
   rw[ae,aj];refine⟨by simp[go_sem,hq_4]<;>omega,?_⟩
   rw[ae,ax,if_pos (by rfl)]
   refine (ai _ _).2 ⟨⟨[((p+1+a.n:Nat):Int)],[],[],[],[],[]⟩,rfl,af,by simpa[go_sem,hq_4] using hr_4,?_⟩
   rw[ae,ag,if_pos (by rfl),s_ctB]
   refine⟨b,lsl,l,u_3,s_3,inn,_,p+1+a.n,a2,rfl,X_3,P2,w2,by omega,hl,by omega,⟨(by have hF:=F.2;simp only[List.length_append,List.length_cons,List.length_nil] at hF ⊢;omega),(by have hF:=F.2;simp only[List.length_append,List.length_cons,List.length_nil,List.flatten_cons,List.flatten_nil] at hF ⊢;omega)⟩,fun u_4 s_4 k_4 X_4 G_4=>?_⟩
   refine⟨fun h=>(by cases h),(ai _ _).2 ⟨⟨[],[],[],[],[],[]⟩,rfl,af,rfl,?_⟩⟩
   have R_4:=R_3.go X_3.prn G_4
   rw[ae,ah,if_neg (by simp[go_sem,hs2])]
   rw[ae,ak,ep]
   exact fin u_4 s_4 k_4 (by simpa using X_4) (((G_1.trans G_2 X_1.prn.nn).trans G_3 X_2.prn.nn).trans G_4 X_3.prn.nn)
 | if2 _ _ a a2 a3 w1 w2 w3=>
   iterate 2 (rw[ae,ah,if_neg (by simp[go_sem])])
   rw[ae,ah,if_pos (by simp[go_sem])]
   rw[MW] at F fin
   obtain⟨P1,PK2⟩:=PK.cons
   obtain⟨P2,PK3⟩:=PK2.cons
   have P3:=PK3.cons.1
   rw[aA,aA,aA,bg] at hn' hi
   have hs2:s.n=3:=R.n
   rw[ae,aT];intro b_1 hb_1
   rw[ae,ag,if_pos (by rfl),s_ctYPut]
   refine aY (ss:=[[105,102,32]]) X1 hb_1 (by have hF:=F.2;simp only[List.length_append,List.length_cons,List.length_nil,List.flatten_cons,List.flatten_nil] at hF ⊢;omega) (by simp) fun u_1 s_1 k_1 X_1 G_1=>?_
   refine⟨fun h=>(by cases h),(ai _ _).2 ⟨⟨[],[],[],[],[],[]⟩,rfl,af,rfl,?_⟩⟩
   have R_1:=R.go X1.prn G_1
   obtain⟨q_2,y_2,hq_2,hj_2,hr_2⟩:=iT R_1 0 (p+1) (by simp[places]<;>omega)
   rw[ae,aj];refine⟨by simp[go_sem,hq_2]<;>omega,?_⟩
   rw[ae,ax,if_pos (by rfl)]
   refine (ai _ _).2 ⟨⟨[((p+1:Nat):Int)],[],[],[],[],[]⟩,rfl,af,by simpa[go_sem,hq_2] using hr_2,?_⟩
   rw[ae,ag,if_pos (by rfl),s_ctE]
   refine⟨b,lsl,l,u_1,s_1,inn,_,p+1,a,rfl,X_1,P1,w1,by have:=P1.lt;omega,hl,⟨(by have hF:=F.2;simp only[List.length_append,List.length_cons,List.length_nil] at hF ⊢;omega),(by have hF:=F.2;simp only[List.length_append,List.length_cons,List.length_nil,List.flatten_cons,List.flatten_nil] at hF ⊢;omega)⟩,fun u_2 s_2 k_2 X_2 G_2=>?_⟩
   refine⟨fun h=>(by cases h),(ai _ _).2 ⟨⟨[],[],[],[],[],[]⟩,rfl,af,rfl,?_⟩⟩
   have R_2:=R_1.go X_1.prn G_2
   rw[ae,aT];intro b_3 hb_3
   rw[ae,ag,if_pos (by rfl),s_ctYPut]
   refine aY (ss:=[[32]]) X_2 hb_3 (by have hF:=F.2;simp only[List.length_append,List.length_cons,List.length_nil,List.flatten_cons,List.flatten_nil] at hF ⊢;omega) (by simp) fun u_3 s_3 k_3 X_3 G_3=>?_
   refine⟨fun h=>(by cases h),(ai _ _).2 ⟨⟨[],[],[],[],[],[]⟩,rfl,af,rfl,?_⟩⟩
   have R_3:=R_2.go X_2.prn G_3
   obtain⟨q_4,y_4,hq_4,hj_4,hr_4⟩:=iT R_3 1 (p+1+a.n) (by simp[places]<;>omega)
   rw[ae,aj];refine⟨by simp[go_sem,hq_4]<;>omega,?_⟩
   rw[ae,ax,if_pos (by rfl)]
   refine (ai _ _).2 ⟨⟨[((p+1+a.n:Nat):Int)],[],[],[],[],[]⟩,rfl,af,by simpa[go_sem,hq_4] using hr_4,?_⟩
   rw[ae,ag,if_pos (by rfl),s_ctB]
   refine⟨b,lsl,l,u_3,s_3,inn,_,p+1+a.n,a2,rfl,X_3,P2,w2,by omega,hl,by omega,⟨(by have hF:=F.2;simp only[List.length_append,List.length_cons,List.length_nil] at hF ⊢;omega),(by have hF:=F.2;simp only[List.length_append,List.length_cons,List.length_nil,List.flatten_cons,List.flatten_nil] at hF ⊢;omega)⟩,fun u_4 s_4 k_4 X_4 G_4=>?_⟩
   refine⟨fun h=>(by cases h),(ai _ _).2 ⟨⟨[],[],[],[],[],[]⟩,rfl,af,rfl,?_⟩⟩
   have R_4:=R_3.go X_3.prn G_4
   rw[ae,ah,if_pos (by simp[go_sem,hs2])]
   rw[ae,aT];intro b_5 hb_5
   rw[ae,ag,if_pos (by rfl),s_ctYPut]
   refine aY (ss:=[[32,101,108,115,101,32]]) X_4 hb_5 (by have hF:=F.2;simp only[List.length_append,List.length_cons,List.length_nil,List.flatten_cons,List.flatten_nil] at hF ⊢;omega) (by simp) fun u_5 s_5 k_5 X_5 G_5=>?_
   refine⟨fun h=>(by cases h),(ai _ _).2 ⟨⟨[],[],[],[],[],[]⟩,rfl,af,rfl,?_⟩⟩
   have R_5:=R_4.go X_4.prn G_5
   obtain⟨q_6,y_6,hq_6,hj_6,hr_6⟩:=iT R_5 2 (p+1+a.n+a2.n) (by simp[places]<;>omega)
   rw[ae,aj];refine⟨by simp[go_sem,hq_6]<;>omega,?_⟩
   rw[ae,ax,if_pos (by rfl)]
   refine (ai _ _).2 ⟨⟨[((p+1+a.n+a2.n:Nat):Int)],[],[],[],[],[]⟩,rfl,af,by simpa[go_sem,hq_6] using hr_6,?_⟩
   rw[ae,ag,if_pos (by rfl),s_ctB]
   refine⟨b,lsl,l,u_5,s_5,inn,_,p+1+a.n+a2.n,a3,rfl,X_5,P3,w3,by omega,hl,by omega,⟨(by have hF:=F.2;simp only[List.length_append,List.length_cons,List.length_nil] at hF ⊢;omega),(by have hF:=F.2;simp only[List.length_append,List.length_cons,List.length_nil,List.flatten_cons,List.flatten_nil] at hF ⊢;omega)⟩,fun u_6 s_6 k_6 X_6 G_6=>?_⟩
   refine⟨fun h=>(by cases h),(ai _ _).2 ⟨⟨[],[],[],[],[],[]⟩,rfl,af,rfl,?_⟩⟩
   have R_6:=R_5.go X_5.prn G_6
   rw[ae,ak,ep]
   exact fin u_6 s_6 k_6 (by simpa using X_6) (((((G_1.trans G_2 X_1.prn.nn).trans G_3 X_2.prn.nn).trans G_4 X_3.prn.nn).trans G_5 X_4.prn.nn).trans G_6 X_5.prn.nn)
 | while_ _ _ a a2 w1 w2=>
   iterate 3 (rw[ae,ah,if_neg (by simp[go_sem])])
   rw[ae,ah,if_pos (by simp[go_sem])]
   rw[D6] at F fin
   obtain⟨P1,PK2⟩:=PK.cons
   have P2:=PK2.cons.1
   rw[aA,aA,bg] at hn' hi
   have hs2:s.n=2:=R.n
   rw[ae,aT];intro b_1 hb_1
   rw[ae,ag,if_pos (by rfl),s_ctYPut]
   refine aY (ss:=[[119,104,105,108,101,32]]) X1 hb_1 (by have hF:=F.2;simp only[List.length_append,List.length_cons,List.length_nil,List.flatten_cons,List.flatten_nil] at hF ⊢;omega) (by simp) fun u_1 s_1 k_1 X_1 G_1=>?_
   refine⟨fun h=>(by cases h),(ai _ _).2 ⟨⟨[],[],[],[],[],[]⟩,rfl,af,rfl,?_⟩⟩
   have R_1:=R.go X1.prn G_1
   obtain⟨q_2,y_2,hq_2,hj_2,hr_2⟩:=iT R_1 0 (p+1) (by simp[places]<;>omega)
   rw[ae,aj];refine⟨by simp[go_sem,hq_2]<;>omega,?_⟩
   rw[ae,ax,if_pos (by rfl)]
   refine (ai _ _).2 ⟨⟨[((p+1:Nat):Int)],[],[],[],[],[]⟩,rfl,af,by simpa[go_sem,hq_2] using hr_2,?_⟩
   rw[ae,ag,if_pos (by rfl),s_ctE]
   refine⟨b,lsl,l,u_1,s_1,inn,_,p+1,a,rfl,X_1,P1,w1,by have:=P1.lt;omega,hl,⟨(by have hF:=F.2;simp only[List.length_append,List.length_cons,List.length_nil] at hF ⊢;omega),(by have hF:=F.2;simp only[List.length_append,List.length_cons,List.length_nil,List.flatten_cons,List.flatten_nil] at hF ⊢;omega)⟩,fun u_2 s_2 k_2 X_2 G_2=>?_⟩
   refine⟨fun h=>(by cases h),(ai _ _).2 ⟨⟨[],[],[],[],[],[]⟩,rfl,af,rfl,?_⟩⟩
   have R_2:=R_1.go X_1.prn G_2
   rw[ae,aT];intro b_3 hb_3
   rw[ae,ag,if_pos (by rfl),s_ctYPut]
   refine aY (ss:=[[32]]) X_2 hb_3 (by have hF:=F.2;simp only[List.length_append,List.length_cons,List.length_nil,List.flatten_cons,List.flatten_nil] at hF ⊢;omega) (by simp) fun u_3 s_3 k_3 X_3 G_3=>?_
   refine⟨fun h=>(by cases h),(ai _ _).2 ⟨⟨[],[],[],[],[],[]⟩,rfl,af,rfl,?_⟩⟩
   have R_3:=R_2.go X_2.prn G_3
   obtain⟨q_4,y_4,hq_4,hj_4,hr_4⟩:=iT R_3 1 (p+1+a.n) (by simp[places]<;>omega)
   rw[ae,aj];refine⟨by simp[go_sem,hq_4]<;>omega,?_⟩
   rw[ae,ax,if_pos (by rfl)]
   refine (ai _ _).2 ⟨⟨[((p+1+a.n:Nat):Int)],[],[],[],[],[]⟩,rfl,af,by simpa[go_sem,hq_4] using hr_4,?_⟩
   rw[ae,ag,if_pos (by rfl),s_ctB]
   refine⟨b,lsl,l,u_3,s_3,inn,_,p+1+a.n,a2,rfl,X_3,P2,w2,by omega,hl,by omega,⟨(by have hF:=F.2;simp only[List.length_append,List.length_cons,List.length_nil] at hF ⊢;omega),(by have hF:=F.2;simp only[List.length_append,List.length_cons,List.length_nil,List.flatten_cons,List.flatten_nil] at hF ⊢;omega)⟩,fun u_4 s_4 k_4 X_4 G_4=>?_⟩
   refine⟨fun h=>(by cases h),(ai _ _).2 ⟨⟨[],[],[],[],[],[]⟩,rfl,af,rfl,?_⟩⟩
   have R_4:=R_3.go X_3.prn G_4
   rw[ae,ak,ep]
   exact fin u_4 s_4 k_4 (by simpa using X_4) (((G_1.trans G_2 X_1.prn.nn).trans G_3 X_2.prn.nn).trans G_4 X_3.prn.nn)
 | ret0=>
   iterate 4 (rw[ae,ah,if_neg (by simp[go_sem])])
   rw[ae,ah,if_pos (by simp[go_sem])]
   rw[yF] at F fin
   have hs2:s.n=0:=R.n
   rw[ae,aT];intro b_1 hb_1
   rw[ae,ag,if_pos (by rfl),s_ctYPut]
   refine aY (ss:=[[114,101,116,117,114,110]]) X1 hb_1 (by have hF:=F.2;simp only[List.length_append,List.length_cons,List.length_nil,List.flatten_cons,List.flatten_nil] at hF ⊢;omega) (by simp) fun u_1 s_1 k_1 X_1 G_1=>?_
   refine⟨fun h=>(by cases h),(ai _ _).2 ⟨⟨[],[],[],[],[],[]⟩,rfl,af,rfl,?_⟩⟩
   have R_1:=R.go X1.prn G_1
   have X_r:ng k_1 b lsl l u_1 s_1 (inn:Nat) (acc++([114,101,116,117,114,110]++(([]:List Tr).flatMap fun a=>[32]++tx a))):=by simpa using X_1
   rw[ae]
   refine ny ?_ ?_
   · rw[ei]
     exact⟨0,_,s,_,_,_,rfl,Nat.zero_le _,X_r,G_1.le hle',R_1⟩
   rintro⟨xi,xb,xs,xv,xl,xp⟩ h' M' hc hinv hm hM1
   rw[ei] at hinv
   rw[em] at hm
   obtain⟨j,u5,s5,s6,s7,k5,hC,hj5,X5,G5,R5⟩:=hinv
   simp[Ctx.push,Ctx.heap,Ctx.bare] at hC
   obtain⟨⟨-,-,-,-,-,-,rfl⟩,rfl,⟨-,rfl⟩,rfl,⟨rfl,rfl,rfl⟩,rfl,rfl⟩:=hC
   clear hc hM1
   have hj6:j≤0:=hj5
   obtain rfl:j=0:=by omega
   rw[ah,if_neg (by simp[go_sem,hs2])]
   rw[ae,aT];intro b_6 hb_6
   rw[ae,ag,if_pos (by rfl),s_ctYPut]
   have X5':ng h' b lsl l u5 s6 inn (acc++[114,101,116,117,114,110]):=by simpa[Tr.kl] using X5
   refine aY (ss:=[[59]]) X5' hb_6 (by have hF:=F.2;simp only[List.length_append,List.length_cons,List.length_nil,List.flatten_cons,List.flatten_nil] at hF ⊢;omega) (by simp) fun u6 s8 k6 X6 G6=>?_
   refine⟨fun h=>(by cases h),(ai _ _).2 ⟨⟨[],[],[],[],[],[]⟩,rfl,af,rfl,?_⟩⟩
   rw[ae,ak,ep]
   exact hφ' u6 s8 k6 (by rw[yF];simpa using X6) (G5.trans G6 X5.prn.nn)
 | ret1 _ _ a w1=>
   iterate 4 (rw[ae,ah,if_neg (by simp[go_sem])])
   rw[ae,ah,if_pos (by simp[go_sem])]
   rw[yG] at F fin
   obtain⟨P1,_⟩:=PK.cons
   rw[aA,bg] at hn' hi
   have hs2:s.n=1:=R.n
   rw[ae,aT];intro b_1 hb_1
   rw[ae,ag,if_pos (by rfl),s_ctYPut]
   refine aY (ss:=[[114,101,116,117,114,110]]) X1 hb_1 (by have hF:=F.2;simp only[List.length_append,List.length_cons,List.length_nil,List.flatten_cons,List.flatten_nil] at hF ⊢;omega) (by simp) fun u_1 s_1 k_1 X_1 G_1=>?_
   refine⟨fun h=>(by cases h),(ai _ _).2 ⟨⟨[],[],[],[],[],[]⟩,rfl,af,rfl,?_⟩⟩
   have R_1:=R.go X1.prn G_1
   have X_r:ng k_1 b lsl l u_1 s_1 (inn:Nat) (acc++([114,101,116,117,114,110]++(([]:List Tr).flatMap fun a=>[32]++tx a))):=by simpa using X_1
   rw[ae]
   refine ny ?_ ?_
   · rw[ei]
     exact⟨0,_,s,_,_,_,rfl,Nat.zero_le _,X_r,G_1.le hle',R_1⟩
   rintro⟨xi,xb,xs,xv,xl,xp⟩ h' M' hc hinv hm hM1
   rw[ei] at hinv
   rw[em] at hm
   obtain⟨j,u5,s5,s6,s7,k5,hC,hj5,X5,G5,R5⟩:=hinv
   simp[Ctx.push,Ctx.heap,Ctx.bare] at hC
   obtain⟨⟨-,-,-,-,-,-,rfl⟩,rfl,⟨-,rfl⟩,rfl,⟨rfl,rfl,rfl⟩,rfl,rfl⟩:=hC
   clear hc hM1
   have hm':M' 0=((1:Nat) - (j:Int)).toNat:=hm
   have hj6:j≤1:=hj5
   rcases (show j=0∨j=1 by omega) with rfl | rfl
   · have X5':ng h' b lsl l u5 s6 inn (acc++[114,101,116,117,114,110]):=by simpa[Tr.kl] using X5
     rw[ah,if_pos (by simp[go_sem,hs2])]
     obtain⟨q_5,y_5,hq_5,hj_5,hr_5⟩:=iT R5 0 (p+1) (by simp[places,Tr.kl])
     rw[ae,aj];refine⟨by simp[go_sem,hq_5]<;>omega,?_⟩
     rw[ae,ax,if_pos (by rfl)]
     refine (ai _ _).2 ⟨⟨[((p+1:Nat):Int)],[],[],[],[],[]⟩,rfl,af,by simpa[go_sem,hq_5] using hr_5,?_⟩
     rw[ae,aT];intro b_6 hb_6
     rw[ae,ag,if_pos (by rfl),s_ctYPut]
     refine aY (ss:=[[32]]) X5' hb_6 (by have hF:=F.2;simp only[List.length_append,List.length_cons,List.length_nil,List.flatten_cons,List.flatten_nil] at hF ⊢;omega) (by simp) fun u6 s6 k6 X6 G6=>?_
     refine⟨fun h=>(by cases h),(ai _ _).2 ⟨⟨[],[],[],[],[],[]⟩,rfl,af,rfl,?_⟩⟩
     rw[ae,ag,if_pos (by rfl),s_ctE]
     refine⟨b,lsl,l,u6,s6,inn,_,p+1,a,rfl,X6,P1,w1,by have:=P1.lt;omega,hl,⟨(by have hF:=F.2;simp only[List.length_append,List.length_cons,List.length_nil] at hF ⊢;omega),(by have hF:=F.2;simp only[List.length_append,List.length_cons,List.length_nil,List.flatten_cons,List.flatten_nil] at hF ⊢;omega)⟩,fun u7 s8 k7 X7 G7=>?_⟩
     refine⟨fun h=>(by cases h),(ai _ _).2 ⟨⟨[],[],[],[],[],[]⟩,rfl,af,rfl,?_⟩⟩
     rw[ae,aj];refine⟨by simp[go_sem]<;>omega,?_⟩
     rw[ae,says_again,ei,em]
     refine⟨⟨1,u7,s,s8,_,k7,rfl,Nat.le_refl _,by simpa[Tr.kl] using X7,(G5.trans G6 X5.prn.nn).trans G7 X6.prn.nn,(R5.go X5.prn G6).go X6.prn G7⟩,?_⟩
     show (((1:Nat):Int) - (0+1)).toNat<M' 0
     rw[hm'];decide
   · rw[ah,if_neg (by simp[go_sem,hs2])]
     rw[ae,aT];intro b_6 hb_6
     rw[ae,ag,if_pos (by rfl),s_ctYPut]
     have X5':ng h' b lsl l u5 s6 inn (acc++([114,101,116,117,114,110]++([32]++tx a))):=by simpa[Tr.kl] using X5
     refine aY (ss:=[[59]]) X5' hb_6 (by have hF:=F.2;simp only[List.length_append,List.length_cons,List.length_nil,List.flatten_cons,List.flatten_nil] at hF ⊢;omega) (by simp) fun u6 s8 k6 X6 G6=>?_
     refine⟨fun h=>(by cases h),(ai _ _).2 ⟨⟨[],[],[],[],[],[]⟩,rfl,af,rfl,?_⟩⟩
     rw[ae,ak,ep]
     exact hφ' u6 s8 k6 (by rw[yG];simpa using X6) (G5.trans G6 X5.prn.nn)
 | print _ _ a w1=>
   iterate 5 (rw[ae,ah,if_neg (by simp[go_sem])])
   rw[ae,ah,if_pos (by simp[go_sem])]
   rw[D5] at F fin
   obtain⟨P1,_⟩:=PK.cons
   rw[aA,bg] at hn' hi
   have hs2:s.n=1:=R.n
   rw[ae,aT];intro b_1 hb_1
   rw[ae,ag,if_pos (by rfl),s_ctYPut]
   refine aY (ss:=[[112,114,105,110,116,32]]) X1 hb_1 (by have hF:=F.2;simp only[List.length_append,List.length_cons,List.length_nil,List.flatten_cons,List.flatten_nil] at hF ⊢;omega) (by simp) fun u_1 s_1 k_1 X_1 G_1=>?_
   refine⟨fun h=>(by cases h),(ai _ _).2 ⟨⟨[],[],[],[],[],[]⟩,rfl,af,rfl,?_⟩⟩
   have R_1:=R.go X1.prn G_1
   obtain⟨q_2,y_2,hq_2,hj_2,hr_2⟩:=iT R_1 0 (p+1) (by simp[places]<;>omega)
   rw[ae,aj];refine⟨by simp[go_sem,hq_2]<;>omega,?_⟩
   rw[ae,ax,if_pos (by rfl)]
   refine (ai _ _).2 ⟨⟨[((p+1:Nat):Int)],[],[],[],[],[]⟩,rfl,af,by simpa[go_sem,hq_2] using hr_2,?_⟩
   rw[ae,ag,if_pos (by rfl),s_ctE]
   refine⟨b,lsl,l,u_1,s_1,inn,_,p+1,a,rfl,X_1,P1,w1,by have:=P1.lt;omega,hl,⟨(by have hF:=F.2;simp only[List.length_append,List.length_cons,List.length_nil] at hF ⊢;omega),(by have hF:=F.2;simp only[List.length_append,List.length_cons,List.length_nil,List.flatten_cons,List.flatten_nil] at hF ⊢;omega)⟩,fun u_2 s_2 k_2 X_2 G_2=>?_⟩
   refine⟨fun h=>(by cases h),(ai _ _).2 ⟨⟨[],[],[],[],[],[]⟩,rfl,af,rfl,?_⟩⟩
   have R_2:=R_1.go X_1.prn G_2
   rw[ae,aT];intro b_3 hb_3
   rw[ae,ag,if_pos (by rfl),s_ctYPut]
   refine aY (ss:=[[59]]) X_2 hb_3 (by have hF:=F.2;simp only[List.length_append,List.length_cons,List.length_nil,List.flatten_cons,List.flatten_nil] at hF ⊢;omega) (by simp) fun u_3 s_3 k_3 X_3 G_3=>?_
   refine⟨fun h=>(by cases h),(ai _ _).2 ⟨⟨[],[],[],[],[],[]⟩,rfl,af,rfl,?_⟩⟩
   have R_3:=R_2.go X_2.prn G_3
   rw[ae,ak,ep]
   exact fin u_3 s_3 k_3 (by simpa using X_3) ((G_1.trans G_2 X_1.prn.nn).trans G_3 X_2.prn.nn)
 | do_ _ _ a w1 _=>
   iterate 6 (rw[ae,ah,if_neg (by simp[go_sem])])
   rw[ae,ah,if_pos (by simp[go_sem])]
   rw[Su] at F fin
   obtain⟨P1,_⟩:=PK.cons
   rw[aA,bg] at hn' hi
   have hs2:s.n=1:=R.n
   obtain⟨q_1,y_1,hq_1,hj_1,hr_1⟩:=iT R 0 (p+1) (by simp[places]<;>omega)
   rw[ae,aj];refine⟨by simp[go_sem,hq_1]<;>omega,?_⟩
   rw[ae,ax,if_pos (by rfl)]
   refine (ai _ _).2 ⟨⟨[((p+1:Nat):Int)],[],[],[],[],[]⟩,rfl,af,by simpa[go_sem,hq_1] using hr_1,?_⟩
   rw[ae,ag,if_pos (by rfl),s_ctE]
   refine⟨b,lsl,l,used,sl,inn,_,p+1,a,rfl,X1,P1,w1,by have:=P1.lt;omega,hl,⟨(by have hF:=F.2;simp only[List.length_append,List.length_cons,List.length_nil] at hF ⊢;omega),(by have hF:=F.2;simp only[List.length_append,List.length_cons,List.length_nil] at hF ⊢;omega)⟩,fun u_1 s_1 k_1 X_1 G_1=>?_⟩
   refine⟨fun h=>(by cases h),(ai _ _).2 ⟨⟨[],[],[],[],[],[]⟩,rfl,af,rfl,?_⟩⟩
   have R_1:=R.go X1.prn G_1
   rw[ae,aT];intro b_2 hb_2
   rw[ae,ag,if_pos (by rfl),s_ctYPut]
   refine aY (ss:=[[59]]) X_1 hb_2 (by have hF:=F.2;simp only[List.length_append,List.length_cons,List.length_nil,List.flatten_cons,List.flatten_nil] at hF ⊢;omega) (by simp) fun u_2 s_2 k_2 X_2 G_2=>?_
   refine⟨fun h=>(by cases h),(ai _ _).2 ⟨⟨[],[],[],[],[],[]⟩,rfl,af,rfl,?_⟩⟩
   have R_2:=R_1.go X_1.prn G_2
   rw[ae,ak,ep]
   exact fin u_2 s_2 k_2 (by simpa using X_2) (G_1.trans G_2 X_1.prn.nn)
end Go.Proofs.YtllbpdllkkcajaaGreatDoor
namespace Go.Proofs.YtllbpdllkkcajaaGreatDoor
open Go.RowKit
attribute [local go_sem] bI bH aj ah ag aS ax aQ ak says_again BE.den IE.den SE.den LE.den AE.den CE.den PE.den VE.den KV.val dO.den dO.cnt jO fD jX allL Ctx.push Ctx.heap Ctx.cut Ctx.bare Ctx.mark Inc.blank List.getD_cons_zero List.getD_cons_succ List.cons_append List.nil_append List.append_nil List.map_cons List.map_nil List.replicate_zero List.replicate_succ az dm bY dh cO dK dJ bC bz bD bW bV aH aX aI aG au aP aO dH af and_assoc
def EY:Fm:=(.mk [(.s (.c [123]))] 9 1
 (.V 41 [.P 0,.L 0]
 (.Z 0
 (.Z 0
 (.O (.pt 0 3) 1 [.J 1] ⟨1,0,0,0,0,0⟩
 (.N (.R (.add (.x 1) (.c 1)))
 (.Z 0
 (.Z 0
 (.store (.pt 0 3) [(.i .i64 (.add (.x 1) (.c 1)))]
 (.C 38 [.P 0,.J 0] (.p (.L 1)) ⟨0,0,0,0,1,0⟩
 (.loop 0 ⟨[(.c 0)],[],[],[],[],[]⟩
 (.ite (.lt (.x 2) (.cnt (.x 1)))
 (.N (.X (.x 2) (.x 1))
 (.O (.el (.x 1) (.x 2) 1 0) 1 [.J 3] ⟨1,0,0,0,0,0⟩
 (.V 102 [.P 0]
 (.V 103 [.P 0,.J 3]
 (.N (.R (.add (.x 2) (.c 1)))
 (.again 0 ⟨2,0,0,0,2,1⟩ ⟨3,0,0,0,2,1⟩ ⟨[(.add (.x 2) (.c 1))],[],[],[],[],[]⟩))))))
 (.Z 0
 (.Z 0
 (.O (.pt 0 3) 1 [.J 3] ⟨1,0,0,0,0,0⟩
 (.N (.R (.sub (.x 3) (.c 1)))
 (.Z 0
 (.Z 0
 (.store (.pt 0 3) [(.i .i64 (.sub (.x 3) (.c 1)))]
 (.V 102 [.P 0]
 (.mk [(.s (.c [125]))] 9 1
 (.V 41 [.P 0,.L 2]
 .E))))))))))))))))))))))
theorem Oo:bG ⟨true,[]⟩ Tryz.prog (fun l=>([⟨[20],[21,22,23,5,24,25,26,27,28,29],[]⟩]:List bZ).getD l ⟨[],[],[]⟩) Tryz.f67=EY:=by kernel_rfl
theorem UF:aF Tryz.prog .zero Tryz.f67.params.toList=some ([.P 0,.J 0],⟨1,0,0,0,0,1⟩):=by kernel_rfl
theorem kG (i:Nat):(Rj i).length=i+1:=by simp[Rj]
theorem uo (i:Nat) (t:Tr) (ts:List Tr):pM i (t::ts)=Rj i++(stx i t++pM i ts):=by rw[pM.eq_def]
def Vt (h:Hp) (b:Nat) (lsl:bT) (l:List Ng) (sl:bT) (inn:Nat) (acc:List UInt8) (p:Nat) (ks:List Tr) (_:Nat) (C:Ctx):Prop:=
 ∃ (j:Nat) (u:Bool) (s s' s3:bT) (k:Hp) (pre rest:List Tr) (a:List UInt8),C=⟨[(p:Int),(inn:Int),(j:Int)],[],[],[],[s3,s],[some (b,0)],k,dM⟩∧ks=pre++rest∧pre.length=j∧ng k b lsl l u s' ((inn+1:Nat):Int) (acc++([123]++a))∧qF h k b sl s'∧jg k s (places ((p+1:Nat):Int) ks)∧a++pM (inn+1) rest=pM (inn+1) ks
theorem oG.app:∀ {a b:List Tr},oG (a++b)→oG b
 | [],_,h=>h
 | _::_,_,.cons _ _ _ hs=>oG.app hs
theorem ui {l:List Ng} {p:Nat} {ks pre rest:List Tr} {t:Tr} (P:Na l p ks) (e:ks=pre++t::rest):Ps l (p+Tr.ns pre) t∧(places (p:Nat) ks)[pre.length]? = some ((p+Tr.ns pre:Nat):Int):=by
 subst e
 refine⟨(Na.app P).cons.1,?_⟩
 rw[vz,List.getElem?_append_right (by rw[fF];omega),fF,Nat.sub_self,places]
 simp
set_option maxHeartbeats 8000000 in
theorem abe {n:Nat} (ih:zI n):Gt (n+1):=by
 rintro args h φ w ⟨b,lsl,l,used,sl,inn,acc,p,t,rfl,X,P,W,hn,hl,hi,F,hφ⟩ hH
 cases W with
 | blk ln c ks hk=>
 refine bJ Tryz.func67 Oo UF [iK,kF,Qo,Qq ih] φ (Vt h b lsl l sl inn acc p ks) (fun _ C=>((ks.length:Int) - C.i.getD 2 0).toNat) ⟨[((p:Nat):Int)],[],[],[],[],[some (b,0)],h,dM⟩ ⟨rfl,rfl,rfl,rfl,rfl,rfl⟩ af ?_ w hH rfl
 generalize hE:(⟨az _,_,_,_⟩:Env)=E
 have s_ctYPut:E.spec 41=(iK).spec:=by rw[← hE];rfl
 have s_ctYKids:E.spec 38=(kF).spec:=by rw[← hE];rfl
 have s_ctYLine:E.spec 102=(Qo).spec:=by rw[← hE];rfl
 have s_ctS:E.spec 103=(Qq ih).spec:=by rw[← hE];rfl
 have ep:E.post=φ:=by rw[← hE]
 have ei:E.inv=(Vt h b lsl l sl inn acc p ks):=by rw[← hE]
 have em:E.meas=(fun _ C=>((ks.length:Int) - C.i.getD 2 0).toNat):=by rw[← hE]
 clear hE
 unfold EY
 obtain⟨hpl,hpt⟩:=P.node
 have hlt:=P.lt
 rw[jk] at hn hi hlt
 have hks:=uI ks
 have PK:=P.kids
 rw[Sl] at F hφ
 rw[← ae]
 rw[ae,aT];intro b_1 hb_1
 rw[ae,ag,if_pos (by rfl),s_ctYPut]
 refine aY (ss:=[[123]]) X hb_1 (by have hF:=F.2;simp only[List.length_append,List.length_cons,List.length_nil,List.flatten_cons,List.flatten_nil] at hF ⊢;omega) (by simp) fun u_1 s_1 k_1 X_1 G_1=>?_
 refine⟨fun h=>(by cases h),(ai _ _).2 ⟨⟨[],[],[],[],[],[]⟩,rfl,af,rfl,?_⟩⟩
 rw[ae,aj];refine⟨by simp[go_sem]<;>omega,?_⟩
 rw[ae,aj];refine⟨by simp[go_sem]<;>omega,?_⟩
 rw[ae,ax,if_pos (by rfl)]
 refine (ai _ _).2 ⟨⟨[(inn:Int)],[],[],[],[],[]⟩,rfl,af,by simp[go_sem,bu X_1.prn.at_,prn],?_⟩
 rw[ae,aj];refine⟨by simp[go_sem]<;>omega,?_⟩
 rw[ae,aj];refine⟨by simp[go_sem]<;>omega,?_⟩
 rw[ae,aj];refine⟨by simp[go_sem]<;>omega,?_⟩
 obtain⟨w1,X_2,G_2⟩:=Ry (j:=((inn+1:Nat):Int)) X_1
 rw[ae,aQ]
 refine⟨_,w1,?_⟩
 rw[ae,ag,if_pos (by rfl),s_ctYKids]
 refine⟨b,lsl,l,p,((Tr.ns ks:Nat):Int),ks.length,places ((p:Nat)+1) ks,_,_,rfl,X_2.prn.at_,X_2.row,hl,by omega,⟨l[p],List.getElem?_eq_getElem hpl,by rw[hpt];rfl⟩,by omega,by omega,P.iU (Nat.le_refl _),fun s k_3 hle ho hsn=>?_⟩
 refine⟨fun h=>(by cases h),(ai _ _).2 ⟨⟨[],[],[],[],[s],[]⟩,rfl,af,rfl,?_⟩⟩
 have X_3:=X_2.le hle
 have R:=jg.own ho hsn
 rw[show ((p:Nat):Int)+1=((p+1:Nat):Int) by omega] at R
 have G_3:qF h k_3 b sl s_1:=(G_1.trans G_2 X_1.prn.nn).trans ⟨fun c o _ _ hc=>hle c o hc,fun z hz=>.inl ⟨z,hz,rfl⟩⟩ X_2.prn.nn
 have X_4:ng k_3 b lsl l u_1 s_1 ((inn+1:Nat):Int) (acc++([123]++[])):=by simpa using X_3
 rw[ae]
 refine ny ?_ ?_
 · rw[ei]
   exact⟨0,_,s,_,_,_,[],ks,[],rfl,rfl,rfl,X_4,G_3,R,by simp⟩
 rintro⟨xi,xb,xs,xv,xl,xp⟩ h' M' hc hinv hm hM1
 rw[ei] at hinv
 rw[em] at hm
 obtain⟨j,u5,s5,s6,s7,k5,pre,rest,a,hC,hks5,hj5,X5,G5,R5,ha⟩:=hinv
 simp[Ctx.push,Ctx.heap,Ctx.bare] at hC
 obtain⟨rfl,rfl,rfl,rfl,⟨rfl,rfl,rfl⟩,rfl,rfl⟩:=hC
 clear hc hM1 X_1 X_2 X_3 X_4 G_1 G_2 G_3 R w1 ho hle
 have hm':M' 0=((ks.length:Int) - (j:Int)).toNat:=hm
 have hsn5:s.n=ks.length:=by rw[R5.n,fF]
 have hlen:ks.length=j+rest.length:=by rw[hks5,List.length_append,hj5]
 cases rest with
 | nil=>
   rw[List.length_nil] at hlen
   rw[ah,if_neg (by simp[go_sem];omega)]
   rw[pM,List.append_nil] at ha
   rw[ae,aj];refine⟨by simp[go_sem]<;>omega,?_⟩
   rw[ae,aj];refine⟨by simp[go_sem]<;>omega,?_⟩
   rw[ae,ax,if_pos (by rfl)]
   refine (ai _ _).2 ⟨⟨[((inn+1:Nat):Int)],[],[],[],[],[]⟩,rfl,af,by simp[go_sem,bu X5.prn.at_,prn],?_⟩
   rw[ae,aj];refine⟨by simp[go_sem]<;>omega,?_⟩
   rw[ae,aj];refine⟨by simp[go_sem]<;>omega,?_⟩
   rw[ae,aj];refine⟨by simp[go_sem]<;>omega,?_⟩
   obtain⟨w2,X_6,G_6⟩:=Ry (j:=((inn:Nat):Int)) X5
   rw[ae,aQ]
   have e:(((inn+1:Nat):Int) - 1)=((inn:Nat):Int):=by omega
   refine⟨_,(congrArg (fun q=>lC h' (some (b,0+3)) [Value.int .i64 q]) e).trans w2,?_⟩
   rw[ae,ag,if_pos (by rfl),s_ctYLine]
   refine⟨b,lsl,l,u5,s6,inn,_,rfl,X_6,by omega,(by have hF:=F.2;have hA:=congrArg List.length ha;simp only[List.length_append,List.length_cons,List.length_nil,kG] at hF hA ⊢;omega),fun u7 s8 k7 X7 G7=>?_⟩
   refine⟨fun h=>(by cases h),(ai _ _).2 ⟨⟨[],[],[],[],[],[]⟩,rfl,af,rfl,?_⟩⟩
   rw[ae,aT];intro b_8 hb_8
   rw[ae,ag,if_pos (by rfl),s_ctYPut]
   refine aY (ss:=[[125]]) X7 hb_8 (by have hF:=F.2;have hA:=congrArg List.length ha;simp only[List.length_append,List.length_cons,List.length_nil,List.flatten_cons,List.flatten_nil,kG] at hF hA ⊢;omega) (by simp) fun u8 s9 k8 X8 G8=>?_
   refine⟨fun h=>(by cases h),(ai _ _).2 ⟨⟨[],[],[],[],[],[]⟩,rfl,af,rfl,?_⟩⟩
   rw[ae,ak,ep]
   refine hφ u8 s9 k8 ?_ (((G5.trans G_6 X5.prn.nn).trans G7 X_6.prn.nn).trans G8 X7.prn.nn)
   rw[← ha]
   simpa using X8
 | cons t rest=>
   rw[List.length_cons] at hlen
   obtain⟨P1,hpa⟩:=ui PK hks5
   have hW:=oG.app (show oG (pre++(t::rest)) by rw[← hks5];exact hk)
   have hWt:IR t:=by cases hW;assumption
   have htn:t.n≤Tr.ns ks:=by rw[hks5,nU,aA];omega
   rw[uo] at ha
   rw[hj5] at hpa
   obtain⟨q_5,y_5,hq_5,hj_5,hr_5⟩:=iT R5 j _ hpa
   rw[ah,if_pos (by simp[go_sem];omega)]
   rw[ae,aj];refine⟨by simp[go_sem,hq_5]<;>omega,?_⟩
   rw[ae,ax,if_pos (by rfl)]
   refine (ai _ _).2 ⟨⟨[((p+1+Tr.ns pre:Nat):Int)],[],[],[],[],[]⟩,rfl,af,by simpa[go_sem,hq_5] using hr_5,?_⟩
   rw[ae,ag,if_pos (by rfl),s_ctYLine]
   refine⟨b,lsl,l,u5,s6,inn+1,_,rfl,X5,by omega,(by have hF:=F.2;have hA:=congrArg List.length ha;simp only[List.length_append,List.length_cons,List.length_nil,kG] at hF hA ⊢;omega),fun u7 s8 k7 X7 G7=>?_⟩
   refine⟨fun h=>(by cases h),(ai _ _).2 ⟨⟨[],[],[],[],[],[]⟩,rfl,af,rfl,?_⟩⟩
   rw[ae,ag,if_pos (by rfl),s_ctS]
   refine⟨b,lsl,l,u7,s8,inn+1,_,p+1+Tr.ns pre,t,rfl,X7,P1,hWt,by omega,hl,by omega,⟨(by have hF:=F.2;have hA:=congrArg List.length ha;simp only[List.length_append,List.length_cons,List.length_nil,kG] at hF hA ⊢;omega),(by have hF:=F.2;have hA:=congrArg List.length ha;simp only[List.length_append,List.length_cons,List.length_nil,kG] at hF hA ⊢;omega)⟩,fun u8 s9 k8 X8 G8=>?_⟩
   refine⟨fun h=>(by cases h),(ai _ _).2 ⟨⟨[],[],[],[],[],[]⟩,rfl,af,rfl,?_⟩⟩
   rw[ae,aj];refine⟨by simp[go_sem]<;>omega,?_⟩
   rw[ae,says_again,ei,em]
   refine⟨⟨j+1,u8,s,s9,_,k8,pre++[t],rest,a++(Rj (inn+1)++stx (inn+1) t),rfl,by rw[hks5];simp,by simp[hj5],by simpa using X8,(G5.trans G7 X5.prn.nn).trans G8 X7.prn.nn,(R5.go X5.prn G7).go X7.prn G8,by rw[← ha];simp⟩,?_⟩
   show (((ks.length:Int) - ((j:Int)+1)).toNat)<M' 0
   omega
theorem xE:∀ n,zI n∧Gt n
 | 0=>by
   refine⟨?_,?_⟩
   · rintro args h φ w ⟨b,lsl,l,used,sl,inn,acc,p,t,rfl,X,P,W,hn,_⟩ hH
     rw[uA] at hn
     omega
   · rintro args h φ w ⟨b,lsl,l,used,sl,inn,acc,p,t,rfl,X,P,W,hn,_⟩ hH
     rw[uA] at hn
     omega
 | n+1=>⟨Zr (xE n).2,abe (xE n).1⟩
end Go.Proofs.YtllbpdllkkcajaaGreatDoor
namespace Go.Proofs.YtllbpdllkkcajaaGreatDoor
open Go.RowKit
attribute [local go_sem] bI bH aj ah ag aS ax aQ ak says_again BE.den IE.den SE.den LE.den AE.den CE.den PE.den VE.den KV.val dO.den dO.cnt jO fD jX allL Ctx.push Ctx.heap Ctx.cut Ctx.bare Ctx.mark Inc.blank List.getD_cons_zero List.getD_cons_succ List.cons_append List.nil_append List.append_nil List.map_cons List.map_nil List.replicate_zero List.replicate_succ az dm bY dh cO dK dJ bC bz bD bW bV aH aX aI aG au aP aO dH af and_assoc
def QR:Fm:=(.Z 0
 (.Z 0
 (.O (.pt 0 0) 1 [(.sl (.x 0))] ⟨0,0,0,0,1,0⟩
 (.N (.X (.x 0) (.x 0))
 (.N (.nns (.x 0))
 (.O (.el (.x 0) (.x 0) 6 5) 1 [(.s (.x 0))] ⟨0,0,1,0,0,0⟩
 (.mk [(.s (.c [114,101,99,32])),(.s (.x 0)),(.s (.c [32,123]))] 9 3
 (.V 41 [.P 0,.L 1]
 (.C 38 [.P 0,.J 0] (.p (.L 2)) ⟨0,0,0,0,1,0⟩
 (.loop 0 ⟨[(.c 0)],[],[],[],[],[]⟩
 (.ite (.lt (.x 1) (.cnt (.x 2)))
 (.N (.X (.x 1) (.x 2))
 (.O (.el (.x 2) (.x 1) 1 0) 1 [.J 2] ⟨1,0,0,0,0,0⟩
 (.O (.pt 0 0) 1 [(.sl (.x 3))] ⟨0,0,0,0,1,0⟩
 (.O (.el (.x 3) (.x 2) 6 5) 1 [(.s (.x 1))] ⟨0,0,1,0,0,0⟩
 (.Z 0
 (.Z 0
 (.N (.X (.x 2) (.x 3))
 (.N (.nns (.x 3))
 (.N (.R (.add (.x 2) (.c 1)))
 (.callK (.c true) [((.c true),(.pt 0 0),1),((.c true),(.el (.x 3) (.x 2) 6 5),1)] 28 [.P 0,(.I (.add (.x 2) (.c 1)))] (.p (.S 2)) ⟨0,0,1,0,0,0⟩
 (.mk [(.s (.c [10,9])),(.s (.x 1)),(.s (.c [58,32])),(.s (.x 2)),(.s (.c [59]))] 9 5
 (.V 41 [.P 0,.L 4]
 (.N (.R (.add (.x 1) (.c 1)))
 (.again 0 ⟨1,0,1,0,3,1⟩ ⟨2,0,1,0,3,1⟩ ⟨[(.add (.x 1) (.c 1))],[],[],[],[],[]⟩))))))))))))))
 (.mk [(.s (.c [10,125]))] 9 1
 (.V 41 [.P 0,.L 3]
 .E)))))))))))))
theorem WU:bG ⟨true,[]⟩ Tryz.prog (fun l=>([⟨[21],[22,23,24,5,25,26,27,28,29,30,31,32,33,34,35,36,37,38,39,40],[]⟩]:List bZ).getD l ⟨[],[],[]⟩) Tryz.f39=QR:=by kernel_rfl
theorem aaM:aF Tryz.prog .zero Tryz.f39.params.toList=some ([.P 0,.J 0],⟨1,0,0,0,0,1⟩):=by kernel_rfl
theorem ng.cell {h:Hp} {b:Nat} {lsl sl:bT} {l:List Ng} {used:Bool} {inn:Int} {acc:List UInt8} (X:ng h b lsl l used sl inn acc) {p:Nat} {t:Tr} (P:Ps l p t):∃ c o,lsl.a=some (c,o)∧p<lsl.n∧hread h (some (c,o+p*6+5)) 1=some [.string (B t.g.x)]∧hread h (some (c,o+p*6+0)) 1=some [.int .u8 t.g.k]:=by
 obtain⟨hp,e⟩:=P.node
 have hn:=NG.n X.row
 obtain⟨c,o,ha⟩:=Rows.nn X.row (j:=p) (by omega)
 have r5:=Rows.read (off:=5) (m:=1) X.row (j:=p) (by omega) (by omega) ha
 have r0:=Rows.read (off:=0) (m:=1) X.row (j:=p) (by omega) (by omega) ha
 rw[← List.drop_drop,nJ hp,e] at r5 r0
 exact⟨c,o,ha,by omega,r5,r0⟩
theorem ng.row0 {h:Hp} {b:Nat} {lsl sl:bT} {l:List Ng} {used:Bool} {inn:Int} {acc:List UInt8} (X:ng h b lsl l used sl inn acc):hread h (some (b,0+0)) 1=some [lsl.val]:=by
 rw[bu X.prn.at_]
 simp[_root_.Go.Proofs.YtllbpdllkkcajaaGreatDoor.prn]
def Sm (h:Hp) (b:Nat) (lsl:bT) (l:List Ng) (sl:bT) (inn:Int) (acc:List UInt8) (p:Nat) (x:List UInt8) (ks:List Tr) (_:Nat) (C:Ctx):Prop:=
 ∃ (j:Nat) (u:Bool) (s s' s3:bT) (k:Hp) (pre rest:List Tr) (a:List UInt8),C=⟨[(p:Int),(j:Int)],[],[x],[],[lsl,s3,s],[some (b,0)],k,dM⟩∧ks=pre++rest∧pre.length=j∧ng k b lsl l u s' inn (acc++([114,101,99,32]++(x++([32,123]++a))))∧qF h k b sl s'∧jg k s (places ((p+1:Nat):Int) ks)∧a++pG rest=pG ks
theorem LU (x:List UInt8) (fs:List Tr):y9 x fs=[114,101,99,32]++(x++([32,123]++(pG fs++[10,125]))):=by simp[y9,jJ]
set_option maxHeartbeats 8000000 in
def VS:Ct Tryz.prog where
 f:=39
 spec:=fun args h φ=>∃ b lsl l used sl inn acc p ln c n x ks,args=[.pointer (some ⟨b,0,none⟩),.int .i64 (p:Nat)]∧ng h b lsl l used sl inn acc∧Ps l p (.nd 2 ln c n x ks)∧(∀ t∈ks,xJ 3 t)∧l.length≤1000000∧Fits acc (y9 x ks)∧Writes h b lsl l sl inn (acc++y9 x ks) φ
 ok:=by
  rintro args h φ w ⟨b,lsl,l,used,sl,inn,acc,p,ln,c,n,x,ks,rfl,X,P,W,hl,F,hφ⟩ hH
  refine bJ Tryz.func39 WU aaM [iK,kF,mD (lF 1000000)] φ (Sm h b lsl l sl inn acc p x ks) (fun _ C=>((ks.length:Int) - C.i.getD 1 0).toNat) ⟨[((p:Nat):Int)],[],[],[],[],[some (b,0)],h,dM⟩ ⟨rfl,rfl,rfl,rfl,rfl,rfl⟩ af ?_ w hH rfl
  generalize hE:(⟨az _,_,_,_⟩:Env)=E
  have s_ctYPut:E.spec 41=(iK).spec:=by rw[← hE];rfl
  have s_ctYKids:E.spec 38=(kF).spec:=by rw[← hE];rfl
  have s_ctK:E.spec 28=(mD (lF 1000000)).spec:=by rw[← hE];rfl
  have ep:E.post=φ:=by rw[← hE]
  have ei:E.inv=(Sm h b lsl l sl inn acc p x ks):=by rw[← hE]
  have em:E.meas=(fun _ C=>((ks.length:Int) - C.i.getD 1 0).toNat):=by rw[← hE]
  clear hE
  unfold QR
  obtain⟨c0,o0,ha0,hpn,hrx,_⟩:=X.cell P
  obtain⟨hpl,hpt⟩:=P.node
  have hlt:=P.lt
  rw[jk] at hlt
  have hks:=uI ks
  have PK:=P.kids
  rw[LU] at F hφ
  rw[← ae]
  rw[ae,aj];refine⟨by simp[go_sem]<;>omega,?_⟩
  rw[ae,aj];refine⟨by simp[go_sem]<;>omega,?_⟩
  rw[ae,ax,if_pos (by rfl)]
  refine (ai _ _).2 ⟨⟨[],[],[],[],[lsl],[]⟩,rfl,af,X.row0,?_⟩
  rw[ae,aj];refine⟨by simp[go_sem,ha0]<;>omega,?_⟩
  rw[ae,aj];refine⟨by simp[go_sem,ha0]<;>omega,?_⟩
  rw[ae,ax,if_pos (by rfl)]
  refine (ai _ _).2 ⟨⟨[],[],[x],[],[],[]⟩,rfl,af,by simpa[go_sem,ha0,Tr.g] using hrx,?_⟩
  rw[ae,aT];intro b_1 hb_1
  rw[ae,ag,if_pos (by rfl),s_ctYPut]
  refine aY (ss:=[[114,101,99,32],x,[32,123]]) X hb_1 (by have hF:=F.2;simp only[List.length_append,List.length_cons,List.length_nil,List.flatten_cons,List.flatten_nil] at hF ⊢;omega) (by simp) fun u_1 s_1 k_1 X_1 G_1=>?_
  refine⟨fun h=>(by cases h),(ai _ _).2 ⟨⟨[],[],[],[],[],[]⟩,rfl,af,rfl,?_⟩⟩
  rw[ae,ag,if_pos (by rfl),s_ctYKids]
  refine⟨b,lsl,l,p,((Tr.ns ks:Nat):Int),ks.length,places ((p:Nat)+1) ks,_,_,rfl,X_1.prn.at_,X_1.row,hl,by omega,⟨l[p],List.getElem?_eq_getElem hpl,by rw[hpt];rfl⟩,by omega,by omega,P.iU (Nat.le_refl _),fun s k_3 hle ho hsn=>?_⟩
  refine⟨fun h=>(by cases h),(ai _ _).2 ⟨⟨[],[],[],[],[s],[]⟩,rfl,af,rfl,?_⟩⟩
  have R:=jg.own ho hsn
  rw[show ((p:Nat):Int)+1=((p+1:Nat):Int) by omega] at R
  have G_3:qF h k_3 b sl s_1:=G_1.trans ⟨fun c o _ _ hc=>hle c o hc,fun z hz=>.inl ⟨z,hz,rfl⟩⟩ X_1.prn.nn
  have X_4:ng k_3 b lsl l u_1 s_1 inn (acc++([114,101,99,32]++(x++([32,123]++[])))):=by simpa using X_1.le hle
  rw[ae]
  refine ny ?_ ?_
  · rw[ei]
    exact⟨0,_,s,_,_,_,[],ks,[],rfl,rfl,rfl,X_4,G_3,R,by simp⟩
  rintro⟨xi,xb,xs,xv,xl,xp⟩ h' M' hc hinv hm hM1
  rw[ei] at hinv
  rw[em] at hm
  obtain⟨j,u5,s5,s6,s7,k5,pre,rest,a,hC,hks5,hj5,X5,G5,R5,ha⟩:=hinv
  simp[Ctx.push,Ctx.heap,Ctx.bare] at hC
  obtain⟨rfl,rfl,rfl,rfl,⟨rfl,rfl,rfl⟩,rfl,rfl⟩:=hC
  clear hc hM1 X_1 X_4 G_1 G_3 R ho hle
  have hm':M' 0=((ks.length:Int) - (j:Int)).toNat:=hm
  have hsn5:s.n=ks.length:=by rw[R5.n,fF]
  have hlen:ks.length=j+rest.length:=by rw[hks5,List.length_append,hj5]
  cases rest with
  | nil=>
    rw[List.length_nil] at hlen
    rw[ah,if_neg (by simp[go_sem];omega)]
    rw[pG,List.append_nil] at ha
    rw[ae,aT];intro b_8 hb_8
    rw[ae,ag,if_pos (by rfl),s_ctYPut]
    refine aY (ss:=[[10,125]]) X5 hb_8 (by have hF:=F.2;have hA:=congrArg List.length ha;simp only[List.length_append,List.length_cons,List.length_nil,List.flatten_cons,List.flatten_nil] at hF hA ⊢;omega) (by simp) fun u8 s9 k8 X8 G8=>?_
    refine⟨fun h=>(by cases h),(ai _ _).2 ⟨⟨[],[],[],[],[],[]⟩,rfl,af,rfl,?_⟩⟩
    rw[ae,ak,ep]
    refine hφ u8 s9 k8 ?_ (G5.trans G8 X5.prn.nn)
    rw[← ha]
    simpa using X8
  | cons t rest=>
    rw[List.length_cons] at hlen
    obtain⟨P1,hpa⟩:=ui PK hks5
    have hWt:xJ 3 t:=W t (by rw[hks5];simp)
    cases hWt with
    | mk lt ct xt hx q hq=>
    have hftx:pG (.nd 3 lt ct 0 xt [q]::rest)=[10,9]++(xt++([58,32]++(kZ q++([59]++pG rest)))):=by simp[pG,Nj]
    rw[hftx] at ha
    rw[hj5] at hpa
    have P2:=P1.kids.cons.1
    have hkp:qc l 1000000 (p+1+Tr.ns pre+1)=some (kZ q):=lW hq P2 (by have:=P2.lt;omega)
    generalize kZ q=kt at ha hkp
    obtain⟨q_5,y_5,hq_5,hj_5,hr_5⟩:=iT R5 j _ hpa
    have hlt1:=P1.lt
    obtain⟨c6,o6,ha6,hp6,hx6,_⟩:=X5.cell P1
    rw[ah,if_pos (by simp[go_sem];omega)]
    rw[ae,aj];refine⟨by simp[go_sem,hq_5]<;>omega,?_⟩
    rw[ae,ax,if_pos (by rfl)]
    refine (ai _ _).2 ⟨⟨[((p+1+Tr.ns pre:Nat):Int)],[],[],[],[],[]⟩,rfl,af,by simpa[go_sem,hq_5] using hr_5,?_⟩
    rw[ae,ax,if_pos (by rfl)]
    refine (ai _ _).2 ⟨⟨[],[],[],[],[lsl],[]⟩,rfl,af,X5.row0,?_⟩
    rw[ae,ax,if_pos (by rfl)]
    refine (ai _ _).2 ⟨⟨[],[],[xt],[],[],[]⟩,rfl,af,(congrArg (fun q=>hread h' q 1) (show _=some (c6,o6+(p+1+Tr.ns pre)*6+5) by simp[go_sem,ha6];omega)).trans hx6,?_⟩
    rw[ae,aj];refine⟨by simp[go_sem]<;>omega,?_⟩
    rw[ae,aj];refine⟨by simp[go_sem]<;>omega,?_⟩
    rw[ae,aj];refine⟨by simp[go_sem,ha6]<;>omega,?_⟩
    rw[ae,aj];refine⟨by simp[go_sem,ha6]<;>omega,?_⟩
    rw[ae,aj];refine⟨by simp[go_sem]<;>omega,?_⟩
    rw[ae,aS,if_pos (by rfl),s_ctK]
    refine⟨b,lsl,l,p+1+Tr.ns pre+1,kt,_,_,rfl,X5.prn.at_,X5.row,hl,hkp,?_,?_⟩
    · have hF:=F.2
      have hA:=congrArg List.length ha
      simp only[List.length_append] at hF hA
      omega
    refine⟨fun _ _ _=>rfl,(ai _ _).2 ⟨⟨[],[],[kt],[],[],[]⟩,rfl,af,rfl,?_⟩⟩
    rw[ae,aT];intro b_6 hb_6
    rw[ae,ag,if_pos (by rfl),s_ctYPut]
    refine aY (ss:=[[10,9],xt,[58,32],kt,[59]]) X5 hb_6 (by have hF:=F.2;have hA:=congrArg List.length ha;simp only[List.length_append,List.length_cons,List.length_nil,List.flatten_cons,List.flatten_nil] at hF hA ⊢;omega) (by simp) fun u8 s9 k8 X8 G8=>?_
    refine⟨fun h=>(by cases h),(ai _ _).2 ⟨⟨[],[],[],[],[],[]⟩,rfl,af,rfl,?_⟩⟩
    rw[ae,aj];refine⟨by simp[go_sem]<;>omega,?_⟩
    rw[ae,says_again,ei,em]
    refine⟨⟨j+1,u8,s,s9,_,k8,pre++[.nd 3 lt ct 0 xt [q]],rest,a++([10,9]++(xt++([58,32]++(kt++[59])))),rfl,by rw[hks5];simp,by simp[hj5],by simpa using X8,G5.trans G8 X5.prn.nn,R5.go X5.prn G8,by rw[← ha];simp⟩,?_⟩
    show (((ks.length:Int) - ((j:Int)+1)).toNat)<M' 0
    omega
end Go.Proofs.YtllbpdllkkcajaaGreatDoor
namespace Go.Proofs.YtllbpdllkkcajaaGreatDoor
open Go.RowKit
attribute [local go_sem] bI bH aj ah ag aS ax aQ ak says_again BE.den IE.den SE.den LE.den AE.den CE.den PE.den VE.den KV.val dO.den dO.cnt jO fD jX allL Ctx.push Ctx.heap Ctx.cut Ctx.bare Ctx.mark Inc.blank List.getD_cons_zero List.getD_cons_succ List.cons_append List.nil_append List.append_nil List.map_cons List.map_nil List.replicate_zero List.replicate_succ az dm bY dh cO dK dJ bC bz bD bW bV aH aX aI aG au aP aO dH af and_assoc
def Wn:Fm:=(.Z 0
 (.Z 0
 (.O (.pt 0 0) 1 [(.sl (.x 0))] ⟨0,0,0,0,1,0⟩
 (.N (.X (.x 0) (.x 0))
 (.N (.nns (.x 0))
 (.O (.el (.x 0) (.x 0) 6 5) 1 [(.s (.x 0))] ⟨0,0,1,0,0,0⟩
 (.mk [(.s (.c [102,110,32])),(.s (.x 0)),(.s (.c [40]))] 9 3
 (.V 41 [.P 0,.L 1]
 (.C 38 [.P 0,.J 0] (.p (.L 2)) ⟨0,0,0,0,1,0⟩
 (.N (.R (.sub (.cnt (.x 2)) (.c 2)))
 (.N (.and (.and (.le (.c 0) (.sub (.cnt (.x 2)) (.c 2))) (.le (.sub (.cnt (.x 2)) (.c 2)) (.cap (.x 2)))) (.and (.le (.c 0) (.c 0)) (.le (.c 0) (.sub (.cnt (.x 2)) (.c 2)))))
 (.loop 0 ⟨[(.c 0)],[],[],[],[],[]⟩
 (.ite (.lt (.x 1) (.cnt (.sub (.x 2) (.c 0) (.sub (.cnt (.x 2)) (.c 2)) 1)))
 (.N (.and (.and (.le (.c 0) (.x 1)) (.lt (.x 1) (.cnt (.sub (.x 2) (.c 0) (.sub (.cnt (.x 2)) (.c 2)) 1)))) (.nns (.sub (.x 2) (.c 0) (.sub (.cnt (.x 2)) (.c 2)) 1)))
 (.O (.el (.sub (.x 2) (.c 0) (.sub (.cnt (.x 2)) (.c 2)) 1) (.x 1) 1 0) 1 [.J 2] ⟨1,0,0,0,0,0⟩
 (.ite (.lt (.c 0) (.x 1))
 (.mk [(.s (.c [44,32]))] 9 1
 (.V 41 [.P 0,.L 3]
 (.O (.pt 0 0) 1 [(.sl (.x 4))] ⟨0,0,0,0,1,0⟩
 (.O (.el (.x 4) (.x 2) 6 5) 1 [(.s (.x 1))] ⟨0,0,1,0,0,0⟩
 (.Z 0
 (.Z 0
 (.N (.X (.x 2) (.x 4))
 (.N (.nns (.x 4))
 (.N (.R (.add (.x 2) (.c 1)))
 (.callK (.c true) [((.c true),(.pt 0 0),1),((.c true),(.el (.x 4) (.x 2) 6 5),1)] 28 [.P 0,(.I (.add (.x 2) (.c 1)))] (.p (.S 2)) ⟨0,0,1,0,0,0⟩
 (.mk [(.s (.x 1)),(.s (.c [58,32])),(.s (.x 2))] 9 3
 (.V 41 [.P 0,.L 5]
 (.N (.R (.add (.x 1) (.c 1)))
 (.again 0 ⟨1,0,1,0,3,1⟩ ⟨2,0,1,0,3,1⟩ ⟨[(.add (.x 1) (.c 1))],[],[],[],[],[]⟩))))))))))))))
 (.O (.pt 0 0) 1 [(.sl (.x 3))] ⟨0,0,0,0,1,0⟩
 (.O (.el (.x 3) (.x 2) 6 5) 1 [(.s (.x 1))] ⟨0,0,1,0,0,0⟩
 (.Z 0
 (.Z 0
 (.N (.X (.x 2) (.x 3))
 (.N (.nns (.x 3))
 (.N (.R (.add (.x 2) (.c 1)))
 (.callK (.c true) [((.c true),(.pt 0 0),1),((.c true),(.el (.x 3) (.x 2) 6 5),1)] 28 [.P 0,(.I (.add (.x 2) (.c 1)))] (.p (.S 2)) ⟨0,0,1,0,0,0⟩
 (.mk [(.s (.x 1)),(.s (.c [58,32])),(.s (.x 2))] 9 3
 (.V 41 [.P 0,.L 4]
 (.N (.R (.add (.x 1) (.c 1)))
 (.again 0 ⟨1,0,1,0,3,1⟩ ⟨2,0,1,0,3,1⟩ ⟨[(.add (.x 1) (.c 1))],[],[],[],[],[]⟩)))))))))))))))
 (.mk [(.s (.c [41]))] 9 1
 (.V 41 [.P 0,.L 3]
 (.O (.pt 0 0) 1 [(.sl (.x 4))] ⟨0,0,0,0,1,0⟩
 (.O (.el (.x 2) (.sub (.cnt (.x 2)) (.c 2)) 1 0) 1 [.J 2] ⟨1,0,0,0,0,0⟩
 (.Z 0
 (.Z 0
 (.N (.X (.sub (.cnt (.x 2)) (.c 2)) (.x 2))
 (.N (.X (.x 2) (.x 4))
 (.N (.nns (.x 4))
 (.O (.el (.x 4) (.x 2) 6 0) 1 [.U 3] ⟨1,0,0,0,0,0⟩
 (.ite (.not (.eqI (.x 3) (.c 14)))
 (.N (.X (.sub (.cnt (.x 2)) (.c 2)) (.x 2))
 (.O (.el (.x 2) (.sub (.cnt (.x 2)) (.c 2)) 1 0) 1 [.J 4] ⟨1,0,0,0,0,0⟩
 (.C 28 [.P 0,.J 4] (.p (.S 1)) ⟨0,0,1,0,0,0⟩
 (.mk [(.s (.c [58,32])),(.s (.x 1))] 9 2
 (.V 41 [.P 0,.L 5]
 (.mk [(.s (.c [32]))] 9 1
 (.V 41 [.P 0,.L 6]
 (.N (.R (.add (.sub (.cnt (.x 2)) (.c 2)) (.c 1)))
 (.N (.X (.add (.sub (.cnt (.x 2)) (.c 2)) (.c 1)) (.x 2))
 (.O (.el (.x 2) (.add (.sub (.cnt (.x 2)) (.c 2)) (.c 1)) 1 0) 1 [.J 5] ⟨1,0,0,0,0,0⟩
 (.V 67 [.P 0,.J 5]
 .E)))))))))))
 (.mk [(.s (.c [32]))] 9 1
 (.V 41 [.P 0,.L 5]
 (.N (.R (.add (.sub (.cnt (.x 2)) (.c 2)) (.c 1)))
 (.N (.X (.add (.sub (.cnt (.x 2)) (.c 2)) (.c 1)) (.x 2))
 (.O (.el (.x 2) (.add (.sub (.cnt (.x 2)) (.c 2)) (.c 1)) 1 0) 1 [.J 4] ⟨1,0,0,0,0,0⟩
 (.V 67 [.P 0,.J 4]
 .E))))))))))))))))))))))))))))))
theorem Z8:bG ⟨true,[]⟩ Tryz.prog (fun l=>([⟨[29],[30,31,32,33,6,7,34,35,36,37,38,39,40,41,42,43,44,45,46,47,48,49,50,51,52,53,54],[]⟩]:List bZ).getD l ⟨[],[],[]⟩) Tryz.f40=Wn:=by kernel_rfl
theorem acI:aF Tryz.prog .zero Tryz.f40.params.toList=some ([.P 0,.J 0],⟨1,0,0,0,0,1⟩):=by kernel_rfl
def P6 (h:Hp) (b:Nat) (lsl:bT) (l:List Ng) (sl:bT) (inn:Int) (acc:List UInt8) (p:Nat) (x:List UInt8) (ps:List Tr) (r d:Tr) (_:Nat) (C:Ctx):Prop:=
 ∃ (j:Nat) (u:Bool) (s s' s3:bT) (k:Hp) (pre rest:List Tr) (a:List UInt8),C=⟨[(p:Int),(j:Int)],[],[x],[],[lsl,s3,s],[some (b,0)],k,dM⟩∧ps=pre++rest∧pre.length=j∧ng k b lsl l u s' inn (acc++([102,110,32]++(x++([40]++a))))∧qF h k b sl s'∧jg k s (places ((p+1:Nat):Int) (ps++[r,d]))∧a++(if j=0 then qy rest else qA rest)=qy ps
theorem MS (x:List UInt8) (ps:List Tr) (r d:Tr):Eb x ps r d=[102,110,32]++(x++([40]++(qy ps++([41]++((if r.k=14 then [] else [58,32]++kZ r)++([32]++tN 0 d)))))):=by
 simp only[Eb,sZ]
 split<;>simp
theorem Yp (j:Nat) (lt ct:Int) (xt:List UInt8) (q:Tr) (rest:List Tr):(if j=0 then qy (.nd 5 lt ct 0 xt [q]::rest) else qA (.nd 5 lt ct 0 xt [q]::rest))=(if j=0 then [] else [44,32])++(xt++([58,32]++(kZ q++qA rest))):=by
 split<;>simp[qy,qA,Nj]
set_option maxHeartbeats 16000000 in
def abp:Ct Tryz.prog where
 f:=40
 spec:=fun args h φ=>∃ b lsl l used sl acc p ln c n x ps r d,args=[.pointer (some ⟨b,0,none⟩),.int .i64 (p:Nat)]∧ng h b lsl l used sl ((0:Nat):Int) acc∧Ps l p (.nd 4 ln c n x (ps++[r,d]))∧(∀ t∈ps,xJ 5 t)∧(r.k=14∨vK r)∧Nc d∧l.length≤1000000∧Fits acc (Eb x ps r d)∧Writes h b lsl l sl ((0:Nat):Int) (acc++Eb x ps r d) φ
 ok:=by
  rintro args h φ w ⟨b,lsl,l,used,sl,acc,p,ln,c,n,x,ps,r,d,rfl,X,P,W,WR,WD,hl,F,hφ⟩ hH
  refine bJ Tryz.func40 Z8 acI [iK,kF,mD (lF 1000000),GY (xE 1000000).2] φ (P6 h b lsl l sl ((0:Nat):Int) acc p x ps r d) (fun _ C=>((ps.length:Int) - C.i.getD 1 0).toNat) ⟨[((p:Nat):Int)],[],[],[],[],[some (b,0)],h,dM⟩ ⟨rfl,rfl,rfl,rfl,rfl,rfl⟩ af ?_ w hH rfl
  generalize hE:(⟨az _,_,_,_⟩:Env)=E
  have s_ctYPut:E.spec 41=(iK).spec:=by rw[← hE];rfl
  have s_ctYKids:E.spec 38=(kF).spec:=by rw[← hE];rfl
  have s_ctK:E.spec 28=(mD (lF 1000000)).spec:=by rw[← hE];rfl
  have s_ctB:E.spec 67=(GY (xE 1000000).2).spec:=by rw[← hE];rfl
  have ep:E.post=φ:=by rw[← hE]
  have ei:E.inv=(P6 h b lsl l sl ((0:Nat):Int) acc p x ps r d):=by rw[← hE]
  have em:E.meas=(fun _ C=>((ps.length:Int) - C.i.getD 1 0).toNat):=by rw[← hE]
  clear hE
  unfold Wn
  obtain⟨c0,o0,ha0,hpn,hrx,_⟩:=X.cell P
  obtain⟨hpl,hpt⟩:=P.node
  have hlt:=P.lt
  rw[jk] at hlt
  have PK:=P.kids
  have hks:=uI (ps++[r,d])
  have hkl:(ps++[r,d]).length=ps.length+2:=by simp
  rw[MS] at F hφ
  rw[← ae]
  rw[ae,aj];refine⟨by simp[go_sem]<;>omega,?_⟩
  rw[ae,aj];refine⟨by simp[go_sem]<;>omega,?_⟩
  rw[ae,ax,if_pos (by rfl)]
  refine (ai _ _).2 ⟨⟨[],[],[],[],[lsl],[]⟩,rfl,af,X.row0,?_⟩
  rw[ae,aj];refine⟨by simp[go_sem,ha0]<;>omega,?_⟩
  rw[ae,aj];refine⟨by simp[go_sem,ha0]<;>omega,?_⟩
  rw[ae,ax,if_pos (by rfl)]
  refine (ai _ _).2 ⟨⟨[],[],[x],[],[],[]⟩,rfl,af,by simpa[go_sem,ha0,Tr.g] using hrx,?_⟩
  rw[ae,aT];intro b_1 hb_1
  rw[ae,ag,if_pos (by rfl),s_ctYPut]
  refine aY (ss:=[[102,110,32],x,[40]]) X hb_1 (by have hF:=F.2;simp only[List.length_append,List.length_cons,List.length_nil,List.flatten_cons,List.flatten_nil] at hF ⊢;omega) (by simp) fun u_1 s_1 k_1 X_1 G_1=>?_
  refine⟨fun h=>(by cases h),(ai _ _).2 ⟨⟨[],[],[],[],[],[]⟩,rfl,af,rfl,?_⟩⟩
  rw[ae,ag,if_pos (by rfl),s_ctYKids]
  refine⟨b,lsl,l,p,((Tr.ns (ps++[r,d]):Nat):Int),(ps++[r,d]).length,places ((p:Nat)+1) (ps++[r,d]),_,_,rfl,X_1.prn.at_,X_1.row,hl,by omega,⟨l[p],List.getElem?_eq_getElem hpl,by rw[hpt];rfl⟩,by omega,by omega,P.iU (Nat.le_refl _),fun s k_3 hle ho hsn=>?_⟩
  refine⟨fun h=>(by cases h),(ai _ _).2 ⟨⟨[],[],[],[],[s],[]⟩,rfl,af,rfl,?_⟩⟩
  have R:=jg.own ho hsn
  rw[show ((p:Nat):Int)+1=((p+1:Nat):Int) by omega] at R
  have G_3:qF h k_3 b sl s_1:=G_1.trans ⟨fun c o _ _ hc=>hle c o hc,fun z hz=>.inl ⟨z,hz,rfl⟩⟩ X_1.prn.nn
  have X_4:ng k_3 b lsl l u_1 s_1 ((0:Nat):Int) (acc++([102,110,32]++(x++([40]++[])))):=by simpa using X_1.le hle
  have hsn4:s.n=ps.length+2:=by rw[R.n,fF,hkl]
  have hsc:=R.c
  rw[ae,aj];refine⟨by simp[go_sem]<;>omega,?_⟩
  rw[ae,aj];refine⟨by simp[go_sem]<;>omega,?_⟩
  rw[ae]
  refine ny ?_ ?_
  · rw[ei]
    exact⟨0,_,s,_,_,_,[],ps,[],rfl,rfl,rfl,X_4,G_3,R,by simp⟩
  rintro⟨xi,xb,xs,xv,xl,xp⟩ h' M' hc hinv hm hM1
  rw[ei] at hinv
  rw[em] at hm
  obtain⟨j,u5,s5,s6,s7,k5,pre,rest,a,hC,hks5,hj5,X5,G5,R5,ha⟩:=hinv
  simp[Ctx.push,Ctx.heap,Ctx.bare] at hC
  obtain⟨rfl,rfl,rfl,rfl,⟨rfl,rfl,rfl⟩,rfl,rfl⟩:=hC
  clear hc hM1 X_1 X_4 G_1 G_3 R ho hle
  have hm':M' 0=((ps.length:Int) - (j:Int)).toNat:=hm
  have hlen:ps.length=j+rest.length:=by rw[hks5,List.length_append,hj5]
  cases rest with
  | nil=>
    rw[List.length_nil] at hlen
    have hz:¬ ((j:Int)<(((s.n:Int) - 2).toNat - 0:Nat)):=by omega
    rw[ah,if_neg (by simpa[go_sem] using hz)]
    have ha:a=qy ps:=by
     rw[← ha]
     split<;>simp[qy,qA]
    subst ha
    obtain⟨PR,hpr⟩:=ui (pre:=ps) (rest:=[d]) PK rfl
    obtain⟨PD,hpd⟩:=ui (t:=d) (pre:=ps++[r]) (rest:=[]) PK (by simp)
    rw[List.length_append,List.length_singleton] at hpd
    rw[nU,aA,bg] at PD hpd
    have hltd:=PD.lt
    rw[ae,aT];intro b_6 hb_6
    rw[ae,ag,if_pos (by rfl),s_ctYPut]
    refine aY (ss:=[[41]]) X5 hb_6 (by have hF:=F.2;simp only[List.length_append,List.length_cons,List.length_nil,List.flatten_cons,List.flatten_nil] at hF ⊢;omega) (by simp) fun u6 s8 k6 X6 G6=>?_
    refine⟨fun h=>(by cases h),(ai _ _).2 ⟨⟨[],[],[],[],[],[]⟩,rfl,af,rfl,?_⟩⟩
    have R6:=R5.go X5.prn G6
    obtain⟨q_6,y_6,hq_6,hj_6,hr_6⟩:=iT R6 ps.length _ hpr
    obtain⟨c6,o6,ha6,hp6,_,hk6⟩:=X6.cell PR
    have hz1:((s.n:Int) - 2).toNat=ps.length:=by omega
    have rdR:∀ k',hread k' (some (q_6,y_6+ps.length*1+0)) 1=some [.int .i64 ((p+1+Tr.ns ps:Nat):Int)]→s.a=some (q_6,y_6)→hread k' (s.a.map fun x=>(x.1,x.2+((s.n:Int) - 2).toNat*1+0)) 1=some [.int .i64 ((p+1+Tr.ns ps:Nat):Int)]:=fun k' h1 h2=>by rw[h2,hz1];exact h1
    rw[ae,ax,if_pos (by rfl)]
    refine (ai _ _).2 ⟨⟨[],[],[],[],[lsl],[]⟩,rfl,af,X6.row0,?_⟩
    rw[ae,ax,if_pos (by rfl)]
    refine (ai _ _).2 ⟨⟨[((p+1+Tr.ns ps:Nat):Int)],[],[],[],[],[]⟩,rfl,af,rdR _ hr_6 hq_6,?_⟩
    rw[ae,aj];refine⟨by simp[go_sem]<;>omega,?_⟩
    rw[ae,aj];refine⟨by simp[go_sem]<;>omega,?_⟩
    rw[ae,aj];refine⟨by simp[go_sem,hq_6]<;>omega,?_⟩
    rw[ae,aj];refine⟨by simp[go_sem,ha6]<;>omega,?_⟩
    rw[ae,aj];refine⟨by simp[go_sem,ha6]<;>omega,?_⟩
    rw[ae,ax,if_pos (by rfl)]
    refine (ai _ _).2 ⟨⟨[r.k],[],[],[],[],[]⟩,rfl,af,?_,?_⟩
    · refine (congrArg (fun q=>hread k6 q 1) (show _=some (c6,o6+(p+1+Tr.ns ps)*6+0) by simp[go_sem,ha6];omega)).trans (hk6.trans ?_)
      obtain⟨rk,rl,rc,rn,rx,rks⟩:=r
      rfl
    have tail:∀ (u7:Bool) (s9:bT) (k7:Hp) (m:List UInt8),m=(if r.k=14 then [] else [58,32]++kZ r)→ng k7 b lsl l u7 s9 ((0:Nat):Int) (acc++([102,110,32]++(x++([40]++(qy ps++([41]++(m++[32])))))))→qF h k7 b sl s9→jg k7 s (places ((p+1:Nat):Int) (ps++[r,d]))→
     ∀ (i:List Int) (ss:List (List UInt8)) (L:List bT) (M:Nat→Nat) (z:Nat),i.length=z→Then E (.N (.R (.add (.sub (.cnt (.x 2)) (.c 2)) (.c 1)))
      (.N (.X (.add (.sub (.cnt (.x 2)) (.c 2)) (.c 1)) (.x 2))
      (.O (.el (.x 2) (.add (.sub (.cnt (.x 2)) (.c 2)) (.c 1)) 1 0) 1 [(.i .i64 (.x z))] ⟨1,0,0,0,0,0⟩
      (.V 67 [.P 0,(.I (.x z))]
      .E)))) ⟨i,[],ss,[],lsl::⟨some (b_1,0),3,3⟩::s::L,[some (b,0)],k7,M⟩:=by
     intro u7 s9 k7 m hm7 X7 G7 R7 i ss L M z hz7
     obtain⟨q_7,y_7,hq_7,hj_7,hr_7⟩:=iT R7 (ps.length+1) _ hpd
     rw[ae,aj];refine⟨by simp[go_sem]<;>omega,?_⟩
     rw[ae,aj];refine⟨by simp[go_sem,hq_7]<;>omega,?_⟩
     rw[ae]
     have hz2:((s.n:Int) - 2+1).toNat=ps.length+1:=by omega
     have rd7:hread k7 (s.a.map fun x=>(x.1,x.2+((s.n:Int) - 2+1).toNat*1+0)) 1=some [.int .i64 ((p+1+(Tr.ns ps+(r.n+0)):Nat):Int)]:=by rw[hq_7,hz2];exact hr_7
     refine uZ hz7 (fun _=>⟨_,rd7⟩) fun v hv=>?_
     have hv':hread k7 (s.a.map fun x=>(x.1,x.2+((s.n:Int) - 2+1).toNat*1+0)) 1=some [.int .i64 v]:=hv rfl
     obtain rfl:((p+1+(Tr.ns ps+(r.n+0)):Nat):Int)=v:=by
      rw[rd7] at hv'
      simpa using hv'
     rw[ae,ag,if_pos (by rfl),s_ctB]
     refine⟨b,lsl,l,u7,s9,0,_,p+1+(Tr.ns ps+(r.n+0)),d,?_,X7,PD,WD,by omega,hl,by omega,?_,fun u8 s10 k8 X8 G8=>?_⟩
     · simp[go_sem,← hz7]
     · subst hm7
       exact⟨(by have hF:=F.2;simp only[List.length_append,List.length_cons,List.length_nil] at hF ⊢;omega),(by have hF:=F.2;simp only[List.length_append,List.length_cons,List.length_nil] at hF ⊢;omega)⟩
     refine⟨fun h=>(by cases h),(ai _ _).2 ⟨⟨[],[],[],[],[],[]⟩,rfl,af,rfl,?_⟩⟩
     rw[ae,ak,ep]
     refine hφ u8 s10 k8 ?_ (G7.trans G8 X7.prn.nn)
     subst hm7
     simpa using X8
    by_cases hr14:r.k=14
    · rw[ae,ah,if_neg (by simp[go_sem,hr14])]
      rw[if_pos hr14] at F
      rw[ae,aT];intro b_7 hb_7
      rw[ae,ag,if_pos (by rfl),s_ctYPut]
      refine aY (ss:=[[32]]) X6 hb_7 (by have hF:=F.2;simp only[List.length_append,List.length_cons,List.length_nil,List.flatten_cons,List.flatten_nil] at hF ⊢;omega) (by simp) fun u7 s9 k7 X7 G7=>?_
      refine⟨fun h=>(by cases h),(ai _ _).2 ⟨⟨[],[],[],[],[],[]⟩,rfl,af,rfl,?_⟩⟩
      exact tail u7 s9 k7 [] (by rw[if_pos hr14]) (by simpa using X7) ((G5.trans G6 X5.prn.nn).trans G7 X6.prn.nn) (R6.go X6.prn G7) _ _ _ _ _ rfl
    · have hwr:vK r:=WR.resolve_left hr14
      have hkp:qc l 1000000 (p+1+Tr.ns ps)=some (kZ r):=lW hwr PR (by have:=PR.lt;omega)
      rw[if_neg hr14] at F
      rw[ae,ah,if_pos (by simpa[go_sem] using hr14)]
      rw[ae,aj];refine⟨by simp[go_sem,hq_6]<;>omega,?_⟩
      rw[ae,ax,if_pos (by rfl)]
      refine (ai _ _).2 ⟨⟨[((p+1+Tr.ns ps:Nat):Int)],[],[],[],[],[]⟩,rfl,af,rdR _ hr_6 hq_6,?_⟩
      rw[ae,ag,if_pos (by rfl),s_ctK]
      refine⟨b,lsl,l,p+1+Tr.ns ps,kZ r,_,_,rfl,X6.prn.at_,X6.row,hl,hkp,?_,?_⟩
      · have hF:=F.2
        simp only[List.length_append] at hF
        omega
      refine⟨fun h=>(by cases h),(ai _ _).2 ⟨⟨[],[],[kZ r],[],[],[]⟩,rfl,af,rfl,?_⟩⟩
      rw[ae,aT];intro b_7 hb_7
      rw[ae,ag,if_pos (by rfl),s_ctYPut]
      refine aY (ss:=[[58,32],kZ r]) X6 hb_7 (by have hF:=F.2;simp only[List.length_append,List.length_cons,List.length_nil,List.flatten_cons,List.flatten_nil] at hF ⊢;omega) (by simp) fun u7 s9 k7 X7 G7=>?_
      refine⟨fun h=>(by cases h),(ai _ _).2 ⟨⟨[],[],[],[],[],[]⟩,rfl,af,rfl,?_⟩⟩
      rw[ae,aT];intro b_8 hb_8
      rw[ae,ag,if_pos (by rfl),s_ctYPut]
      refine aY (ss:=[[32]]) X7 hb_8 (by have hF:=F.2;simp only[List.length_append,List.length_cons,List.length_nil,List.flatten_cons,List.flatten_nil] at hF ⊢;omega) (by simp) fun u8 s10 k8 X8 G8=>?_
      refine⟨fun h=>(by cases h),(ai _ _).2 ⟨⟨[],[],[],[],[],[]⟩,rfl,af,rfl,?_⟩⟩
      exact tail u8 s10 k8 ([58,32]++kZ r) (by rw[if_neg hr14]) (by simpa using X8) (((G5.trans G6 X5.prn.nn).trans G7 X6.prn.nn).trans G8 X7.prn.nn) ((R6.go X6.prn G7).go X7.prn G8) _ _ _ _ _ rfl
  | cons t rest=>
    rw[List.length_cons] at hlen
    have eks:ps++[r,d]=pre++t::(rest++[r,d]):=by rw[hks5];simp
    obtain⟨P1,hpa⟩:=ui PK eks
    have hWt:xJ 5 t:=W t (by rw[hks5];simp)
    cases hWt with
    | mk lt ct xt hx q hq=>
    rw[Yp] at ha
    rw[hj5] at hpa
    have P2:=P1.kids.cons.1
    have hkp:qc l 1000000 (p+1+Tr.ns pre+1)=some (kZ q):=lW hq P2 (by have:=P2.lt;omega)
    have hlt1:=P1.lt
    have hz:(j:Int)<(((s.n:Int) - 2).toNat - 0:Nat):=by omega
    have hnext:∀ (u8:Bool) (s9:bT) (k8:Hp) (s7':bT),ng k8 b lsl l u8 s9 ((0:Nat):Int) (acc++([102,110,32]++(x++([40]++(a++((if j=0 then [] else [44,32])++(xt++([58,32]++kZ q))))))))→qF h k8 b sl s9→jg k8 s (places ((p+1:Nat):Int) (ps++[r,d]))→P6 h b lsl l sl ((0:Nat):Int) acc p x ps r d 0 ⟨[(p:Int),(j:Int)+1],[],[x],[],[lsl,s7',s],[some (b,0)],k8,dM⟩:=fun u8 s9 k8 s7' X8 G8 R8=>
     ⟨j+1,u8,s,s9,s7',k8,pre++[.nd 5 lt ct 0 xt [q]],rest,a++((if j=0 then [] else [44,32])++(xt++([58,32]++kZ q))),rfl,by rw[hks5];simp,by simp[hj5],X8,G8,R8,by rw[← ha,if_neg (Nat.succ_ne_zero j)];simp⟩
    obtain⟨q_5,y_5,hq_5,hj_5,hr_5⟩:=iT R5 j _ hpa
    rw[ah,if_pos (by simpa[go_sem] using hz),ae]
    refine iW (fun _=>by simp[go_sem,hq_5];omega) ?_
    rw[ae,ax,if_pos (by rfl)]
    refine (ai _ _).2 ⟨⟨[((p+1+Tr.ns pre:Nat):Int)],[],[],[],[],[]⟩,rfl,af,(congrArg (fun q=>hread h' q 1) (show _=some (q_5,y_5+j*1+0) by simp[go_sem,hq_5])).trans hr_5,?_⟩
    by_cases hj0:j=0
    · have hz0:¬ ((0:Int)<(j:Int)):=by omega
      rw[if_pos hj0] at ha hnext
      rw[ae,ah,if_neg (by simpa[go_sem] using hz0)]
      obtain⟨c6,o6,ha6,hp6,hx6,_⟩:=X5.cell P1
      rw[ae,ax,if_pos (by rfl)]
      refine (ai _ _).2 ⟨⟨[],[],[],[],[lsl],[]⟩,rfl,af,X5.row0,?_⟩
      rw[ae,ax,if_pos (by rfl)]
      refine (ai _ _).2 ⟨⟨[],[],[xt],[],[],[]⟩,rfl,af,(congrArg (fun q=>hread h' q 1) (show _=some (c6,o6+(p+1+Tr.ns pre)*6+5) by simp[go_sem,ha6];omega)).trans hx6,?_⟩
      rw[ae,aj];refine⟨by simp[go_sem]<;>omega,?_⟩
      rw[ae,aj];refine⟨by simp[go_sem]<;>omega,?_⟩
      rw[ae,aj];refine⟨by simp[go_sem,ha6]<;>omega,?_⟩
      rw[ae,aj];refine⟨by simp[go_sem,ha6]<;>omega,?_⟩
      rw[ae,aj];refine⟨by simp[go_sem]<;>omega,?_⟩
      rw[ae,aS,if_pos (by rfl),s_ctK]
      refine⟨b,lsl,l,p+1+Tr.ns pre+1,kZ q,_,_,rfl,X5.prn.at_,X5.row,hl,hkp,?_,?_⟩
      · have hF:=F.2
        have hA:=congrArg List.length ha
        simp only[List.length_append] at hF hA
        omega
      refine⟨fun _ _ _=>rfl,(ai _ _).2 ⟨⟨[],[],[kZ q],[],[],[]⟩,rfl,af,rfl,?_⟩⟩
      rw[ae,aT];intro b_7 hb_7
      rw[ae,ag,if_pos (by rfl),s_ctYPut]
      refine aY (ss:=[xt,[58,32],kZ q]) X5 hb_7 (by have hF:=F.2;have hA:=congrArg List.length ha;simp only[List.length_append,List.length_cons,List.length_nil,List.flatten_cons,List.flatten_nil] at hF hA ⊢;omega) (by simp) fun u8 s9 k8 X8 G8=>?_
      refine⟨fun h=>(by cases h),(ai _ _).2 ⟨⟨[],[],[],[],[],[]⟩,rfl,af,rfl,?_⟩⟩
      rw[ae,aj];refine⟨by simp[go_sem]<;>omega,?_⟩
      rw[ae,says_again,ei,em]
      refine⟨hnext u8 s9 k8 _ (by simpa using X8) (G5.trans G8 X5.prn.nn) (R5.go X5.prn G8),?_⟩
      show (((ps.length:Int) - ((j:Int)+1)).toNat)<M' 0
      omega
    · have hz0:(0:Int)<(j:Int):=by omega
      rw[if_neg hj0] at ha hnext
      rw[ae,ah,if_pos (by simpa[go_sem] using hz0)]
      rw[ae,aT];intro b_6 hb_6
      rw[ae,ag,if_pos (by rfl),s_ctYPut]
      refine aY (ss:=[[44,32]]) X5 hb_6 (by have hF:=F.2;have hA:=congrArg List.length ha;simp only[List.length_append,List.length_cons,List.length_nil,List.flatten_cons,List.flatten_nil] at hF hA ⊢;omega) (by simp) fun u6 s8 k6 X6 G6=>?_
      refine⟨fun h=>(by cases h),(ai _ _).2 ⟨⟨[],[],[],[],[],[]⟩,rfl,af,rfl,?_⟩⟩
      obtain⟨c6,o6,ha6,hp6,hx6,_⟩:=X6.cell P1
      rw[ae,ax,if_pos (by rfl)]
      refine (ai _ _).2 ⟨⟨[],[],[],[],[lsl],[]⟩,rfl,af,X6.row0,?_⟩
      rw[ae,ax,if_pos (by rfl)]
      refine (ai _ _).2 ⟨⟨[],[],[xt],[],[],[]⟩,rfl,af,(congrArg (fun q=>hread k6 q 1) (show _=some (c6,o6+(p+1+Tr.ns pre)*6+5) by simp[go_sem,ha6];omega)).trans hx6,?_⟩
      rw[ae,aj];refine⟨by simp[go_sem]<;>omega,?_⟩
      rw[ae,aj];refine⟨by simp[go_sem]<;>omega,?_⟩
      rw[ae,aj];refine⟨by simp[go_sem,ha6]<;>omega,?_⟩
      rw[ae,aj];refine⟨by simp[go_sem,ha6]<;>omega,?_⟩
      rw[ae,aj];refine⟨by simp[go_sem]<;>omega,?_⟩
      rw[ae,aS,if_pos (by rfl),s_ctK]
      refine⟨b,lsl,l,p+1+Tr.ns pre+1,kZ q,_,_,rfl,X6.prn.at_,X6.row,hl,hkp,?_,?_⟩
      · have hF:=F.2
        have hA:=congrArg List.length ha
        simp only[List.length_append] at hF hA
        omega
      refine⟨fun _ _ _=>rfl,(ai _ _).2 ⟨⟨[],[],[kZ q],[],[],[]⟩,rfl,af,rfl,?_⟩⟩
      rw[ae,aT];intro b_7 hb_7
      rw[ae,ag,if_pos (by rfl),s_ctYPut]
      refine aY (ss:=[xt,[58,32],kZ q]) X6 hb_7 (by have hF:=F.2;have hA:=congrArg List.length ha;simp only[List.length_append,List.length_cons,List.length_nil,List.flatten_cons,List.flatten_nil] at hF hA ⊢;omega) (by simp) fun u8 s9 k8 X8 G8=>?_
      refine⟨fun h=>(by cases h),(ai _ _).2 ⟨⟨[],[],[],[],[],[]⟩,rfl,af,rfl,?_⟩⟩
      rw[ae,aj];refine⟨by simp[go_sem]<;>omega,?_⟩
      rw[ae,says_again,ei,em]
      refine⟨hnext u8 s9 k8 _ (by simpa using X8) ((G5.trans G6 X5.prn.nn).trans G8 X6.prn.nn) ((R5.go X5.prn G6).go X6.prn G8),?_⟩
      show (((ps.length:Int) - ((j:Int)+1)).toNat)<M' 0
      omega
end Go.Proofs.YtllbpdllkkcajaaGreatDoor
namespace Go.Proofs.YtllbpdllkkcajaaGreatDoor
open Go.RowKit
attribute [local go_sem] bI bH aj ah ag aS ax aQ ak says_again BE.den IE.den SE.den LE.den AE.den CE.den PE.den VE.den KV.val dO.den dO.cnt jO fD jX allL Ctx.push Ctx.heap Ctx.cut Ctx.bare Ctx.mark Inc.blank List.getD_cons_zero List.getD_cons_succ List.cons_append List.nil_append List.append_nil List.map_cons List.map_nil List.replicate_zero List.replicate_succ az dm bY dh cO dK dJ bC bz bD bW bV aH aX aI aG au aP aO dH af and_assoc
def Hl:Fm:=(.C 23 [.L 0] (.p (.B 0)) ⟨0,1,0,0,0,0⟩
 (.need (.x 0) (.X (.c 0) (.x 0))
 (.need (.x 0) (.nns (.x 0))
 (.load (.x 0) (.el (.x 0) (.c 0) 6 0) 1 [.U 0] ⟨1,0,0,0,0,0⟩
 (.need (.not (.or (.not (.x 0)) (.not (.eqI (.x 0) (.c 1))))) (.X (.c 0) (.x 0))
 (.load (.not (.or (.not (.x 0)) (.not (.eqI (.x 0) (.c 1))))) (.el (.x 0) (.c 0) 6 0) 6 [.U 1,.J 2,.J 3,.J 4,.J 5,(.s (.x 0))] ⟨5,0,1,0,0,0⟩
 (.call (.not (.or (.not (.x 0)) (.not (.eqI (.x 0) (.c 1))))) false 49 [(.agg [.U 1,.J 2,.J 3,.J 4,.J 5,(.s (.x 0))])] (.p (.B 1)) ⟨0,1,0,0,0,0⟩
 (.ite (.or (.or (.not (.x 0)) (.not (.eqI (.x 0) (.c 1)))) (.not (.x 1)))
 (.ret (.p (.one (.b (.c false)))))
 (.loop 0 ⟨[(.c 0)],[(.c false)],[],[],[],[]⟩
 (.ite (.lt (.x 6) (.cnt (.x 0)))
 (.N (.X (.x 6) (.x 0))
 (.O (.el (.x 0) (.x 6) 6 0) 6 [.U 7,.J 8,.J 9,.J 10,.J 11,(.s (.x 1))] ⟨5,0,1,0,0,0⟩
 (.C 50 [.L 0,.J 6] (.p (.L 1)) ⟨0,0,0,0,1,0⟩
 (.loop 1 ⟨[(.c 0),(.x 7),(.x 8),(.x 9),(.x 10),(.x 11)],[],[(.x 1)],[],[.nil],[]⟩
 (.ite (.lt (.x 12) (.cnt (.x 1)))
 (.N (.X (.x 12) (.x 1))
 (.O (.el (.x 1) (.x 12) 1 0) 1 [.J 18] ⟨1,0,0,0,0,0⟩
 (.O (.el (.x 0) (.x 18) 6 0) 6 [.U 19,.J 20,.J 21,.J 22,.J 23,(.s (.x 3))] ⟨5,0,1,0,0,0⟩
 (.N (.X (.x 18) (.x 0))
 (.mk [.U 19,.J 20,.J 21,.J 22,.J 23,(.s (.x 3))] 52 1
 (.app (.x 2) (.x 3) 6 56 52
 (.N (.R (.add (.x 12) (.c 1)))
 (.again 1 ⟨12,3,2,0,2,0⟩ ⟨18,3,3,0,3,0⟩ ⟨[(.add (.x 12) (.c 1)),(.x 13),(.x 14),(.x 15),(.x 16),(.x 17)],[],[(.x 2)],[],[(.x 4)],[]⟩))))))))
 (.ite (.eqI (.x 6) (.c 0))
 (.mk [(.i .u8 (.c 2)),(.i .u8 (.c 4))] 5 2
 (.C 52 [.L 3] (.p (.one (.v 0))) ⟨0,0,0,1,0,0⟩
 (.C 51 [(.agg [.U 13,.J 14,.J 15,.J 16,.J 17,(.s (.x 2)),(.sl (.x 2))]),(.one (.v 0))] (.p (.B 3)) ⟨0,1,0,0,0,0⟩
 (.ite (.not (.x 3))
 (.ret (.p (.one (.b (.c false)))))
 (.need (.lt (.c 0) (.x 6)) (.X (.x 6) (.x 0))
 (.load (.lt (.c 0) (.x 6)) (.el (.x 0) (.x 6) 6 0) 6 [.U 18,.J 19,.J 20,.J 21,.J 22,(.s (.x 3))] ⟨5,0,1,0,0,0⟩
 (.call (.lt (.c 0) (.x 6)) false 49 [(.agg [.U 18,.J 19,.J 20,.J 21,.J 22,(.s (.x 3))])] (.p (.B 4)) ⟨0,1,0,0,0,0⟩
 (.call (.and (.lt (.c 0) (.x 6)) (.x 4)) false 53 [(.agg [.U 13,.J 14,.J 15,.J 16,.J 17,(.s (.x 2)),(.sl (.x 2))])] (.p (.B 5)) ⟨0,1,0,0,0,0⟩
 (.ite (.and (.lt (.c 0) (.x 6)) (.or (.not (.x 4)) (.not (.x 5))))
 (.ret (.p (.one (.b (.c false)))))
 (.N (.R (.add (.x 6) (.c 1)))
 (.again 0 ⟨6,2,1,0,1,0⟩ ⟨7,3,1,0,1,0⟩ ⟨[(.add (.x 6) (.c 1))],[(.x 2)],[],[],[],[]⟩)))))))))))
 (.need (.lt (.c 0) (.x 6)) (.X (.x 6) (.x 0))
 (.load (.lt (.c 0) (.x 6)) (.el (.x 0) (.x 6) 6 0) 6 [.U 18,.J 19,.J 20,.J 21,.J 22,(.s (.x 3))] ⟨5,0,1,0,0,0⟩
 (.call (.lt (.c 0) (.x 6)) false 49 [(.agg [.U 18,.J 19,.J 20,.J 21,.J 22,(.s (.x 3))])] (.p (.B 3)) ⟨0,1,0,0,0,0⟩
 (.call (.and (.lt (.c 0) (.x 6)) (.x 3)) false 53 [(.agg [.U 13,.J 14,.J 15,.J 16,.J 17,(.s (.x 2)),(.sl (.x 2))])] (.p (.B 4)) ⟨0,1,0,0,0,0⟩
 (.ite (.and (.lt (.c 0) (.x 6)) (.or (.not (.x 3)) (.not (.x 4))))
 (.ret (.p (.one (.b (.c false)))))
 (.N (.R (.add (.x 6) (.c 1)))
 (.again 0 ⟨6,2,1,0,1,0⟩ ⟨7,3,1,0,1,0⟩ ⟨[(.add (.x 6) (.c 1))],[(.x 2)],[],[],[],[]⟩)))))))))))))
 (.ret (.p (.one (.b (.c true)))))))))))))))
theorem KO:bG ⟨true,[]⟩ Tryz.prog (fun l=>([⟨[2,26],[27,28,3,29,30,31,32,33,4,34,35,36,37,38,39,40,41,6,42,43,44,45,46,47,48,49,50,51,53,54,55,56,57,58,59,60,61,52,63,64,65,66,67,68,69,70,71,72,73,74,75,76,77,62,78],[4]⟩,⟨[38],[39,40,41,6,42,43,44,45,46,47,48,49,50,51],[4]⟩]:List bZ).getD l ⟨[],[],[]⟩) Tryz.f24=Hl:=by kernel_rfl
theorem Rx:aF Tryz.prog .zero Tryz.f24.params.toList=some ([.L 0],⟨0,0,0,0,1,0⟩):=by kernel_rfl
def OO (h:Hp) (sl:bT) (t:Tr) (x0:Ng) (o:Nat) (C:Ctx):Prop:=
 match o with
 | 0=>∃ (j:Nat) (k0:Int) (b0 b1 bb:Bool) (k:Hp),C=⟨[k0,x0.k,x0.l,x0.c,x0.z,x0.n,j],[b0,b1,bb],[x0.x],[],[sl],[],k,dM⟩∧j≤t.n∧dP h k∧CS 0 t.subs=CS j (t.subs.drop j)
 | _=>∃ (j m:Nat) (k0:Int) (b0 b1 bb:Bool) (k:Hp) (x:Ng) (s:Tr) (ksl s':bT),C=⟨[k0,x0.k,x0.l,x0.c,x0.z,x0.n,j,x.k,x.l,x.c,x.z,x.n,m,x.k,x.l,x.c,x.z,x.n],[b0,b1,bb],[x0.x,x.x,x.x],[],[sl,ksl,s'],[],k,dM⟩∧
  t.subs[j]? = some s∧x=s.g∧dP h k∧jg k ksl (places ((j:Int)+1) s.kl)∧m≤s.kl.length∧fJ k s' (rO ((s.kl.map Tr.g).take m)) 52 6∧s'.n=m∧(∀ y,s'.a=some y→h y.1=none∧∀ z,ksl.a=some z→z.1≠y.1)
def Q8 (t:Tr) (o:Nat) (C:Ctx):Nat:=match o with
 | 0=>((t.n:Int) - C.i.getD 6 0).toNat
 | _=>(((C.l.getD 1 ⟨none,0,0⟩).n:Int) - C.i.getD 12 0).toNat
theorem Z9:∀ t:Tr,∃ k l c n x,t=.nd k l c n x t.kl∧t.g=⟨k,l,c,(Tr.ns t.kl:Nat),n,x⟩
 | .nd k l c n x _=>⟨k,l,c,n,x,rfl,rfl⟩
theorem FV:∀ (ts:List Tr) (p:Nat) {l:List Ng} (_:Na l p ts) (m:Nat) (hm:m<ts.length),∃ q:Nat,(places (p:Nat) ts)[m]? = some (q:Int)∧Ps l q ts[m]
 | [],_,_,_,m,hm=>by simp at hm
 | t::ts,p,l,P,0,_=>⟨p,rfl,P.cons.1⟩
 | t::ts,p,l,P,m+1,hm=>by
   obtain⟨q,h1,h2⟩:=FV ts (p+t.n) P.cons.2 m (by simpa using hm)
   refine⟨q,?_,by simpa using h2⟩
   rw[places,List.getElem?_cons_succ,show ((p:Nat):Int)+(t.n:Nat)=((p+t.n:Nat):Int) by omega]
   exact h1
set_option maxHeartbeats 16000000 in
def xQ:Ct Tryz.prog where
 f:=24
 spec:=fun args h φ=>∃ sl l,args=[bT.val sl]∧NG h sl l∧l.length≤1000000∧((qU l=false∧φ (.bool false) h)∨∃ t:Tr,l=t.gs∧φ (.bool (zD t)) h)
 ok:=by
  rintro args h φ w ⟨sl,l,rfl,R,hl,hφ⟩ hH
  have hn:=NG.n R
  rcases hφ with ⟨hr,hφ⟩ | ⟨t,rfl,hφ⟩
  ·
   refine dR (bJ Tryz.func24 KO Rx [pR] (fun v k=>∃ k',dP k' k∧φ v k') (di) (bF) ⟨[],[],[],[],[sl],[],h,dM⟩ ⟨rfl,rfl,rfl,rfl,rfl,rfl⟩ af ?_ w hH rfl)
   generalize hE:(⟨az _,_,_,_⟩:Env)=E
   have s_ctTRight:E.spec 23=(pR).spec:=by rw[← hE];rfl
   have ep:E.post=(fun v k=>∃ k',dP k' k∧φ v k'):=by rw[← hE]
   clear hE
   unfold Hl
   rw[ag,if_pos (by rfl),s_ctTRight]
   refine⟨sl,l,rfl,R,hl,?_⟩
   rw[hr]
   refine⟨fun h=>(by cases h),(ai _ _).2 ⟨⟨[],[false],[],[],[],[]⟩,rfl,af,rfl,?_⟩⟩
   rw[ae]
   refine iW (fun g=>by simp[go_sem] at g) ?_
   rw[ae]
   refine iW (fun g=>by simp[go_sem] at g) ?_
   rw[ae,ax,if_neg (by simp[go_sem]),ae]
   refine iW (fun g=>by simp[go_sem] at g) ?_
   rw[ae,ax,if_neg (by simp[go_sem]),ae,ag,if_neg (by simp[go_sem]),ae,ah,if_pos (by simp[go_sem])]
   rw[ae,ak,ep]
   exact⟨h,fun _ _ h=>h,hφ⟩
  have htn:t.gs.length=t.n:=nK t
  have htpos:0<t.n:=by rw[uA];omega
  obtain⟨gr,hgr,_⟩:=wG t
  have hg0:t.gs[0]? = some t.g:=by rw[hgr];rfl
  obtain⟨hg1,hg2⟩:=List.getElem?_eq_some_iff.1 hg0
  obtain⟨b,o,ha⟩:=Rows.nn R (j:=0) (by omega)
  have hr0:=NG.node R hg1 ha
  rw[hg2] at hr0
  have hr1:=Rows.read (off:=0) (m:=1) R (j:=0) (by omega) (by omega) ha
  rw[Nat.add_zero,nJ hg1,hg2] at hr1
  have hR:=zg t
  have P0:Ps t.gs 0 t:=⟨[],[],by simp,rfl⟩
  unfold zD at hφ
  generalize hx0:t.g=x0 at *
  refine dR (bJ Tryz.func24 KO Rx [pR,Es,VH,yQ,xP,Ji] (fun v k=>∃ k',dP k' k∧φ v k') (OO h sl t x0) (fun o C=>Q8 t o C) ⟨[],[],[],[],[sl],[],h,dM⟩ ⟨rfl,rfl,rfl,rfl,rfl,rfl⟩ af ?_ w hH rfl)
  generalize hE:(⟨az _,_,_,_⟩:Env)=E
  have s_ctTRight:E.spec 23=(pR).spec:=by rw[← hE];rfl
  have s_ctTFields:E.spec 49=(Es).spec:=by rw[← hE];rfl
  have s_ctKids:E.spec 50=(VH).spec:=by rw[← hE];rfl
  have s_ctTof:E.spec 52=(yQ).spec:=by rw[← hE];rfl
  have s_ctLAll:E.spec 51=(xP).spec:=by rw[← hE];rfl
  have s_ctLRight:E.spec 53=(Ji).spec:=by rw[← hE];rfl
  have ep:E.post=(fun v k=>∃ k',dP k' k∧φ v k'):=by rw[← hE]
  have ei:E.inv=(OO h sl t x0):=by rw[← hE]
  have em:E.meas=(fun o C=>Q8 t o C):=by rw[← hE]
  clear hE
  unfold Hl
  have fin:∀ (C:Ctx) (b:Bool),dP h C.h→φ (.bool b) h→Then E (.ret (.p (.one (.b (.c b))))) C:=by
   intro C b hC hb
   rw[ae,ak,ep]
   exact⟨h,hC,hb⟩
  rw[ag,if_pos (by rfl),s_ctTRight]
  refine⟨sl,t.gs,rfl,R,hl,?_⟩
  rw[hR]
  refine⟨fun h=>(by cases h),(ai _ _).2 ⟨⟨[],[true],[],[],[],[]⟩,rfl,af,rfl,?_⟩⟩
  rw[ae]
  refine iW (fun g=>by simp[go_sem,ha];omega) ?_
  rw[ae]
  refine iW (fun g=>by simp[go_sem,ha]) ?_
  rw[ae,ax,if_pos (by rfl)]
  refine (ai _ _).2 ⟨⟨[x0.k],[],[],[],[],[]⟩,rfl,af,by simpa[go_sem,ha,Ng.cs] using hr1,?_⟩
  by_cases hk1:x0.k=1
  rotate_left
  · rw[decide_eq_false hk1] at hφ
    rw[ae]
    refine iW (fun g=>by simp[go_sem,hk1] at g) ?_
    rw[ae,ax,if_neg (by simp[go_sem,hk1]),ae,ag,if_neg (by simp[go_sem,hk1]),ae,ah,if_pos (by simp[go_sem])]
    exact fin _ _ (fun _ _ h=>h) hφ
  rw[decide_eq_true hk1,Bool.true_and] at hφ
  rw[ae]
  refine iW (fun g=>by simp[go_sem,ha];omega) ?_
  rw[ae,ax,if_pos (by simp[go_sem,hk1])]
  refine (ai _ _).2 ⟨⟨[x0.k,x0.l,x0.c,x0.z,x0.n],[],[x0.x],[],[],[]⟩,rfl,af,by simpa[go_sem,ha,Ng.cs] using hr0,?_⟩
  rw[ae,ag,if_pos (by simp[go_sem,hk1]),s_ctTFields]
  refine⟨x0,rfl,?_⟩
  refine⟨fun h=>(by cases h),(ai _ _).2 ⟨⟨[],[fieldsB x0],[],[],[],[]⟩,rfl,af,rfl,?_⟩⟩
  cases hf0:fieldsB x0 with
  | false=>
    rw[hf0] at hφ
    rw[ae,ah,if_pos (by simp[go_sem])]
    exact fin _ _ (fun _ _ h=>h) hφ
  | true=>
  rw[hf0,Bool.true_and] at hφ
  rw[ae,ah,if_neg (by simp[go_sem,hk1]),ae]
  clear hr0 hr1
  refine dB ?_ ?_
  · rw[ei]
    exact⟨0,x0.k,true,true,false,h,rfl,by omega,fun _ _ h=>h,rfl⟩
  rw[ei,em]
  rintro i bbs ss v ll pp hh M ⟨j,k0,b0,b1,bb,k,hC,hj,hle,hok⟩ hM
  cases hC
  have hM':M 0=((t.n:Int) - j).toNat:=hM
  clear hM
  by_cases hjl:j<t.n
  rotate_left
  · have hz2:¬ ((j:Int)<sl.n):=by omega
    rw[ah,if_neg (by simpa[go_sem] using hz2)]
    rw[List.drop_eq_nil_of_le (by rw[wZ];omega),CS] at hok
    rw[hok] at hφ
    exact fin _ _ hle hφ
  have hz2:((j:Int)<sl.n):=by omega
  have hjs:j<t.subs.length:=by rw[wZ];exact hjl
  have hsj:t.subs[j]? = some t.subs[j]:=List.getElem?_eq_getElem hjs
  have P:=RQ t P0 j _ hsj
  rw[Nat.zero_add] at P
  rw[List.drop_eq_getElem_cons hjs,CS] at hok
  generalize t.subs[j]=s at *
  obtain⟨hp1,hp2⟩:=P.node
  have hplt:=P.lt
  have R1:=NG.le R hle
  have hnd:=NG.node R1 hp1 ha
  rw[hp2] at hnd
  rw[ah,if_pos (by simpa[go_sem] using hz2)]
  rw[ae,aj];refine⟨by simp[go_sem,ha]<;>omega,?_⟩
  rw[ae,ax,if_pos (by rfl)]
  refine (ai _ _).2 ⟨⟨[s.g.k,s.g.l,s.g.c,s.g.z,s.g.n],[],[s.g.x],[],[],[]⟩,rfl,af,by simpa[go_sem,ha,Ng.cs] using hnd,?_⟩
  obtain⟨sk,sll,sc,sn,sx,hse,hsg⟩:=Z9 s
  have hns:s.n=Tr.ns s.kl+1:=by rw[hse,uA,Tr.sz,qZ];rfl
  have hkl:=uI s.kl
  have PK:Na t.gs (j+1) s.kl:=by rw[hse] at P;exact P.kids
  have hkP:iU t.gs ((j:Nat)+(Tr.ns s.kl:Nat)) s.kl.length ((j:Nat)+1)=some (places ((j:Nat)+1) s.kl):=by
   rw[hse] at P
   exact P.iU (Nat.le_refl _)
  rw[ae,ag,if_pos (by rfl),s_ctKids]
  refine⟨sl,t.gs,j,((Tr.ns s.kl:Nat):Int),s.kl.length,_,rfl,R1,hl,by omega,⟨s.g,by rw[List.getElem?_eq_getElem hp1,hp2],by rw[hsg]⟩,by omega,by omega,hkP,fun ksl k2 hle2 hko hkn=>?_⟩
  have hle2':dP hh k2:=hle2
  refine⟨fun h=>(by cases h),(ai _ _).2 ⟨⟨[],[],[],[],[ksl],[]⟩,rfl,af,rfl,?_⟩⟩
  have KR:=jg.own hko hkn
  generalize hxs:s.g=x at *
  rw[ae]
  refine ny ?_ ?_
  · rw[ei]
    exact⟨j,0,k0,b0,b1,bb,k2,x,s,ksl,⟨none,0,0⟩,rfl,hsj,hxs.symm,dP.trans hle hle2',KR,Nat.zero_le _,.inl ⟨rfl,by simp[rO]⟩,rfl,fun y hy=>(by cases hy)⟩
  rintro⟨xi,xb,xs,xv,xl,xp⟩ h' M' hc hinv hm hM1
  rw[ei] at hinv
  rw[em] at hm
  clear KR hkP R1 hnd hle hle2 hle2' hko hkn
  obtain⟨j2,m,k0',b0',b1',bb',k,x',s2,ksl',s',hC,q1,q2,hle,KR,hmk,hown,hsn,hfr⟩:=hinv
  simp[Ctx.push,Ctx.heap,Ctx.bare] at hC
  obtain⟨⟨rfl,hj2,-,-,-,-,-,rfl⟩,⟨rfl,rfl,rfl,rfl⟩,⟨-,rfl⟩,rfl,⟨rfl,rfl⟩,rfl,rfl⟩:=hC
  obtain rfl:j2=j:=by omega
  rw[hsj] at q1
  cases q1
  rw[hxs] at q2
  obtain rfl:x=x':=q2.symm
  clear hj2 hc
  have hm':M' 1=((ksl.n:Int) - m).toNat:=hm
  have hM0:M' 0=((t.n:Int) - j2).toNat:=(hM1 0 (by decide)).trans hM'
  clear hm hM1 hM'
  have hkn:ksl.n=s.kl.length:=by rw[KR.n,fF]
  have R1:=NG.le R hle
  by_cases hml:m<s.kl.length
  · have hz3:(m:Int)<ksl.n:=by omega
    obtain⟨q,hq1,Pq⟩:=FV s.kl (j2+1) PK m hml
    obtain⟨hq2,hq3⟩:=List.getElem?_eq_some_iff.1 hq1
    obtain⟨b2,o2,hka,hkr⟩:=KR.read (j:=m) hq2
    have hq3':(places ((j2:Int)+1) s.kl)[m]'hq2=(q:Int):=hq3
    rw[hq3'] at hkr
    obtain⟨hpq,hpq2⟩:=Pq.node
    have hndq:=NG.node R1 hpq ha
    rw[hpq2] at hndq
    have htake:(s.kl.map Tr.g).take (m+1)=(s.kl.map Tr.g).take m++[(s.kl[m]).g]:=by rw[List.take_succ_eq_append_getElem (by simpa using hml)];simp
    generalize (s.kl[m]).g=y at *
    rw[ah,if_pos (by simpa[go_sem] using hz3)]
    rw[ae,aj];refine⟨by simp[go_sem,hka]<;>omega,?_⟩
    rw[ae,ax,if_pos (by rfl)]
    refine (ai _ _).2 ⟨⟨[(q:Int)],[],[],[],[],[]⟩,rfl,af,by simpa[go_sem,hka] using hkr,?_⟩
    rw[ae,ax,if_pos (by rfl)]
    refine (ai _ _).2 ⟨⟨[y.k,y.l,y.c,y.z,y.n],[],[y.x],[],[],[]⟩,rfl,af,by simpa[go_sem,ha,Ng.cs] using hndq,?_⟩
    rw[ae,aj];refine⟨by simp[go_sem,ha]<;>omega,?_⟩
    rw[ae,aT];intro b3 hb3
    have hb3':h' b3=none:=hb3
    rw[ae,dG]
    have hle3:=jH hb3' ⟨y.cs,52⟩
    refine⟨rO ((s.kl.map Tr.g).take m),y.cs,CW hown hle3,.inr ⟨by simp[go_sem],?_⟩,?_,?_,?_,?_⟩
    · simp[go_sem,Ng.cs]
    · intro u hu;simp[Ng.cs] at hu;rcases hu with rfl | rfl | rfl | rfl | rfl | rfl<;>rfl
    · show s'.n+1≤maxLen;unfold maxLen;omega
    · show (s'.n+1)*56≤_;omega
    intro s3 k3 g1 g2 g3 g4
    have g2':s3.n=s'.n+1:=g2
    have hle4:dP h k3:=fun c oo hc=>g4 c oo (fun y hy e=>by
     have:=(hfr y hy).1
     rw[e,hc] at this;cases this) (hle3 _ _ (hle _ _ hc))
    have hnone:∀ c,(h'.set b3 ⟨y.cs,52⟩) c=none→h' c=none:=fun c hc=>xX hb3' hc
    rw[aj]
    refine⟨by simp[go_sem];omega,?_⟩
    rw[ae,says_again,ei,em]
    refine⟨⟨j2,m+1,k0,b0,b1,bb,k3,x,s,ksl,s3,rfl,hsj,hxs.symm,hle4,?_,by omega,by rw[htake,Ho];simpa[rO] using g1,by rw[g2',hsn],fun q4 hq4=>?_⟩,?_⟩
    · refine⟨KR.n,KR.c,KR.at_.imp id fun ⟨c,o4,ob,h1,h2,h3⟩=>⟨c,o4,ob,h1,g4 c ob (fun y hy e=>(hfr y hy).2 _ h1 e.symm) (hle3 _ _ h2),h3⟩⟩
    · rcases g3 q4 hq4 with ⟨q5,hq5,e⟩ | hn5
      · rw[← e];exact hfr q5 hq5
      · have hn6:=hnone _ hn5
        refine⟨?_,fun z hz e=>?_⟩
        · cases hh2:h q4.1 with
          | none=>rfl
          | some oo=>rw[hle _ _ hh2] at hn6;cases hn6
        · rcases KR.at_ with h0 | ⟨c,o4,ob,h1,h2,_⟩
          · have:(places ((j2:Int)+1) s.kl).length=0:=by rw[h0];rfl
            rw[fF] at this
            omega
          · rw[h1] at hz
            cases hz
            simp only at e
            rw[← e,h2] at hn6
            cases hn6
    · show (((ksl.n:Int) - ((m:Int)+1)).toNat)<M' 1
      omega
  have hz3:¬ ((m:Int)<ksl.n):=by omega
  rw[ah,if_neg (by simpa[go_sem] using hz3)]
  obtain rfl:m=s.kl.length:=by omega
  rw[List.take_of_length_le (by simp)] at hown
  have NR:NG h' s' (s.kl.map Tr.g):=Rows.Ie hown
  have hsc:s'.n≤s'.c:=by
   rcases hown with ⟨h1,_⟩ | ⟨_,_,_,_,_,_,h5,_⟩
   · rw[h1];exact Nat.le_refl _
   · exact h5
  have hgo:CS 0 t.subs=CS (j2+1) (t.subs.drop (j2+1))→∀ (k5:Hp) (bb2:Bool),dP h k5→OO h sl t x0 0 ⟨[k0,x0.k,x0.l,x0.c,x0.z,x0.n,(j2:Int)+1],[b0,b1,bb2],[x0.x],[],[sl],[],k5,dM⟩:=fun h1 k5 bb2 h2=>
   ⟨j2+1,k0,b0,b1,bb2,k5,rfl,by omega,h2,h1⟩
  have hms:((t.n:Int) - ((j2:Int)+1)).toNat<M' 0:=by omega
  by_cases hj0:j2=0
  · have hjz:(j2:Int)=0:=by omega
    have hok0:okI j2 s=(s.kl.map Tr.g).all (wO [2,4]):=by unfold okI;rw[if_pos hj0]
    rw[hok0] at hok
    rw[ae,ah,if_pos (by simpa[go_sem] using hjz)]
    rw[ae,aT];intro b3 hb3
    have hb3':h' b3=none:=hb3
    have hle3:=fun o=>jH hb3' o
    rw[ae,ag,if_pos (by rfl),s_ctTof]
    refine⟨_,rfl,fun pb kb Tb hkb hpb=>?_⟩
    refine⟨fun h=>(by cases h),(ai _ _).2 ⟨⟨[],[],[],[_],[],[]⟩,rfl,by intro u hu;simp at hu;subst hu;rfl,rfl,?_⟩⟩
    have hlekb:dP h' kb:=dP.trans (hle3 _) hkb
    have hro:Rows kb ⟨some (b3,0),2,2⟩ (OG [2,4]) 1:=nN (hkb _ _ (au _ _ _)) rfl
    have hw:=ru hpb hro (by decide)
    rw[ae,ag,if_pos (by rfl),s_ctLAll]
    refine⟨x,s',s.kl.map Tr.g,_,_,rfl,NR.le hlekb,by rw[List.length_map];omega,hw,?_⟩
    refine⟨fun h=>(by cases h),(ai _ _).2 ⟨⟨[],[(s.kl.map Tr.g).all (wO [2,4])],[],[],[],[]⟩,rfl,af,rfl,?_⟩⟩
    have hlef:dP h kb:=dP.trans hle hlekb
    cases hall:(s.kl.map Tr.g).all (wO [2,4]) with
    | false=>
      rw[hall,Bool.false_and] at hok
      rw[hok] at hφ
      rw[ae,ah,if_pos (by simp[go_sem])]
      exact fin _ _ hlef hφ
    | true=>
      rw[hall,Bool.true_and] at hok
      rw[ae,ah,if_neg (by simp[go_sem]),ae]
      refine iW (fun g=>by simp[go_sem,hjz] at g) ?_
      rw[ae,ax,if_neg (by simp[go_sem,hjz]),ae,ag,if_neg (by simp[go_sem,hjz]),ae,ag,if_neg (by simp[go_sem,hjz]),ae,ah,if_neg (by simp[go_sem,hjz])]
      rw[ae,aj];refine⟨by simp[go_sem]<;>omega,?_⟩
      rw[ae,says_again,ei,em]
      exact⟨hgo hok kb _ hlef,hms⟩
  · have hjz:¬ (j2:Int)=0:=by omega
    have hjp:(0:Int)<(j2:Int):=by omega
    have hjp':0<j2:=by omega
    have hok0:okI j2 s=(fieldsB x&&fZ x.k x.n (s.kl.map Tr.g)):=by unfold okI;rw[if_neg hj0,hxs]
    rw[hok0] at hok
    have hnd:=NG.node R1 hp1 ha
    rw[hp2] at hnd
    rw[ae,ah,if_neg (by simpa[go_sem] using hjz),ae]
    refine iW (fun g=>by simp[go_sem,ha];omega) ?_
    rw[ae,ax,if_pos (by simpa[go_sem] using hjp)]
    refine (ai _ _).2 ⟨⟨[x.k,x.l,x.c,x.z,x.n],[],[x.x],[],[],[]⟩,rfl,af,by simpa[go_sem,ha,Ng.cs] using hnd,?_⟩
    rw[ae,ag,if_pos (by simpa[go_sem] using hjp),s_ctTFields]
    refine⟨x,rfl,?_⟩
    refine⟨fun h=>(by cases h),(ai _ _).2 ⟨⟨[],[fieldsB x],[],[],[],[]⟩,rfl,af,rfl,?_⟩⟩
    cases hf:fieldsB x with
    | false=>
      rw[hf,Bool.false_and,Bool.false_and] at hok
      rw[hok] at hφ
      rw[ae,ag,if_neg (by simp[go_sem]),ae,ah,if_pos (by simp[go_sem,hjp'])]
      exact fin _ _ hle hφ
    | true=>
      rw[hf,Bool.true_and] at hok
      rw[ae,ag,if_pos (by simp[go_sem,hjp']),s_ctLRight]
      refine⟨x,s',s.kl.map Tr.g,rfl,NR,by rw[List.length_map];omega,hsc,?_⟩
      refine⟨fun h=>(by cases h),(ai _ _).2 ⟨⟨[],[fZ x.k x.n (s.kl.map Tr.g)],[],[],[],[]⟩,rfl,af,rfl,?_⟩⟩
      cases hrb:fZ x.k x.n (s.kl.map Tr.g) with
      | false=>
        rw[hrb,Bool.false_and] at hok
        rw[hok] at hφ
        rw[ae,ah,if_pos (by simp[go_sem,hjp'])]
        exact fin _ _ hle hφ
      | true=>
        rw[hrb,Bool.true_and] at hok
        rw[ae,ah,if_neg (by simp[go_sem])]
        rw[ae,aj];refine⟨by simp[go_sem]<;>omega,?_⟩
        rw[ae,says_again,ei,em]
        exact⟨hgo hok h' _ hle,hms⟩
end Go.Proofs.YtllbpdllkkcajaaGreatDoor
