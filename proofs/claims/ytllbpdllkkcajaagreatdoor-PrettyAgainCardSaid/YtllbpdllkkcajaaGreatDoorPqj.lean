/- The law hindcastlaw07.PrettyAgain: the statement, out of its walk: it answers true whatever it is handed, and what it was handed reads as before. (Texts joined: TreW, TreZF, TreX, PreN, PreO, PreP, PreQ, TreZG, TreY, TreZ, TreZA, TreZH, Card, Laid, LawAgain.) -/
import Derived.Test.YtllbpdllkkcajaaGreatDoorPqi
namespace Go.Proofs.YtllbpdllkkcajaaGreatDoor
open Go.RowKit
attribute [local go_sem] bI bH aj ah ag aS ax aQ ak says_again BE.den IE.den SE.den LE.den AE.den CE.den PE.den VE.den KV.val dO.den dO.cnt jO fD jX allL Ctx.push Ctx.heap Ctx.cut Ctx.bare Ctx.mark Inc.blank List.getD_cons_zero List.getD_cons_succ List.cons_append List.nil_append List.append_nil List.map_cons List.map_nil List.replicate_zero List.replicate_succ az dm bY dh cO dK dJ bC bz bD bW bV aH aX aI aG au aP aO dH af and_assoc
def KA:Fm:=(.N (.R (.add (.cnt (.x 0)) (.cnt (.x 1))))
 (.N (.R (.add (.add (.cnt (.x 0)) (.cnt (.x 1))) (.c 4)))
 (.N (.R (.add (.add (.cnt (.x 0)) (.cnt (.x 1))) (.c 3)))
 (.N (.R (.add (.add (.cnt (.x 0)) (.cnt (.x 1))) (.c 1)))
 (.mk [(.i .u8 (.c 1)),(.i .i64 (.c 0)),(.i .i64 (.c 0)),(.i .i64 (.add (.add (.cnt (.x 0)) (.cnt (.x 1))) (.c 4))),(.i .i64 (.c 0)),(.s (.c [])),(.i .u8 (.c 4)),(.i .i64 (.c 0)),(.i .i64 (.c 0)),(.i .i64 (.add (.add (.cnt (.x 0)) (.cnt (.x 1))) (.c 3))),(.i .i64 (.c 0)),(.s (.c [102])),(.i .u8 (.c 14)),(.i .i64 (.c 0)),(.i .i64 (.c 0)),(.i .i64 (.c 0)),(.i .i64 (.c 0)),(.s (.c [])),(.i .u8 (.c 6)),(.i .i64 (.c 0)),(.i .i64 (.c 0)),(.i .i64 (.add (.add (.cnt (.x 0)) (.cnt (.x 1))) (.c 1))),(.i .i64 (.c 0)),(.s (.c [])),.U 0,(.i .i64 (.c 0)),(.i .i64 (.c 0)),(.i .i64 (.add (.cnt (.x 0)) (.cnt (.x 1)))),(.i .i64 (.c 0)),(.s (.c []))] 52 5
 (.app (.x 2) (.x 1) 6 56 52
 (.app (.x 3) (.x 0) 6 56 52
 (.ret (.p (.L 4))))))))))
theorem Uf:bG ⟨true,[]⟩ Tryz.prog (fun l=>([]:List bZ).getD l ⟨[],[],[]⟩) Tryz.f25=KA:=by kernel_rfl
theorem Ym:aF Tryz.prog .zero Tryz.f25.params.toList=some ([.L 0,(.one (.U 0)),.L 1],⟨1,0,0,0,2,0⟩):=by kernel_rfl
def EZ:Fm:=(.C 23 [.L 0] (.p (.B 0)) ⟨0,1,0,0,0,0⟩
 (.call (.x 0) false 25 [.L 0,(.one (.i .u8 (.c 12))),(.one (.sl .nil))] (.p (.L 1)) ⟨0,0,0,0,1,0⟩
 (.call (.x 0) false 24 [.L 1] (.p (.B 1)) ⟨0,1,0,0,0,0⟩
 (.ite (.or (.not (.x 0)) (.not (.x 1)))
 (.ret (.tup [.W [],(.I (.c 1))]))
 (.new [(.sl (.x 0)),(.c .nilp),(.sl .nil),(.i .i64 (.c 0))] 48
 (.V 26 [.P 0,(.I (.c 0))]
 (.Z 0
 (.Z 0
 (.C 27 [(.one (.adr (.pt 0 1)))] (.p (.S 0)) ⟨0,0,1,0,0,0⟩
 (.ret (.tup [.S 0,(.I (.c 0))])))))))))))
theorem Oq:bG ⟨true,[16]⟩ Tryz.prog (fun l=>([]:List bZ).getD l ⟨[],[],[]⟩) Tryz.f9=EZ:=by kernel_rfl
theorem UG:aF Tryz.prog .zero Tryz.f9.params.toList=some ([.L 0],⟨0,0,0,0,1,0⟩):=by kernel_rfl
def hd5 (kind n:Int):List Ng:=[⟨1,0,0,n+4,0,[]⟩,⟨4,0,0,n+3,0,[102]⟩,⟨14,0,0,0,0,[]⟩,⟨6,0,0,n+1,0,[]⟩,⟨kind,0,0,n,0,[]⟩]
def xB (kind:Int) (t:Tr):Tr:=.nd 1 0 0 0 [] [.nd 4 0 0 0 [102] [.nd 14 0 0 0 [] [],.nd 6 0 0 0 [] [.nd kind 0 0 0 [] [t]]]]
theorem MR (kind:Int) (t:Tr):(xB kind t).gs=hd5 kind t.n++t.gs:=by
 unfold xB hd5
 simp only[wH,kC,aA,bg,jk,show Tr.zT []=[] from rfl,List.append_nil,List.nil_append,List.cons_append]
 simp only[List.cons.injEq,Ng.mk.injEq,and_true,true_and]
 omega
theorem Xu (l:List Ng):iJ (rO l):=by
 intro u hu
 unfold rO at hu
 obtain⟨x,_,hx⟩:=List.mem_flatMap.1 hu
 simp only[Ng.cs,List.mem_cons,List.not_mem_nil,or_false] at hx
 rcases hx with rfl | rfl | rfl | rfl | rfl | rfl<;>rfl
theorem NG.rd {h:Hp} {sl:bT} {l:List Ng} (R:NG h sl l):RdS h sl (rO l) 6:=by
 have hn:=NG.n R
 rcases R.2 with h0 | hr
 · refine .inl ⟨h0,?_⟩
   have:l=[]:=List.eq_nil_of_length_eq_zero (by omega)
   rw[this];rfl
 · refine .inr ⟨?_,hr⟩
   intro e
   rw[e] at hr
   cases hr
set_option maxHeartbeats 4000000 in
def Qr:Ct Tryz.prog where
 f:=25
 spec:=fun args h φ=>∃ sl l kind,args=[bT.val sl,.int .u8 kind,(bT.mk none 0 0).val]∧NG h sl l∧l.length≤1000000∧∀ s' k,dP h k→fJ k s' (rO (hd5 kind l.length++l)) 52 6→s'.n=l.length+5→φ s'.val k
 ok:=by
  rintro args h φ w ⟨sl,l,kind,rfl,R,hl,hφ⟩ hH
  have hn:=NG.n R
  refine bJ Tryz.func25 Uf Ym [] φ (di) (bF) ⟨[kind],[],[],[],[sl,⟨none,0,0⟩],[],h,dM⟩ ⟨rfl,rfl,rfl,rfl,rfl,rfl⟩ af ?_ w hH rfl
  generalize hE:(⟨az _,_,_,_⟩:Env)=E
  have ep:E.post=φ:=by rw[← hE]
  clear hE
  unfold KA
  rw[← ae]
  rw[ae,aj];refine⟨by simp[go_sem]<;>omega,?_⟩
  rw[ae,aj];refine⟨by simp[go_sem]<;>omega,?_⟩
  rw[ae,aj];refine⟨by simp[go_sem]<;>omega,?_⟩
  rw[ae,aj];refine⟨by simp[go_sem]<;>omega,?_⟩
  rw[ae,aT];intro b hb
  have hb':h b=none:=hb
  have hcs:∀ m:Int,m=l.length→[Value.int .u8 1,.int .i64 0,.int .i64 0,.int .i64 (m+0+4),.int .i64 0,.string (B []),.int .u8 4,.int .i64 0,.int .i64 0,.int .i64 (m+0+3),.int .i64 0,.string (B [102]),.int .u8 14,.int .i64 0,.int .i64 0,.int .i64 0,.int .i64 0,.string (B []),.int .u8 6,.int .i64 0,.int .i64 0,.int .i64 (m+0+1),.int .i64 0,.string (B []),.int .u8 kind,.int .i64 0,.int .i64 0,.int .i64 (m+0),.int .i64 0,.string (B [])]=rO (hd5 kind l.length):=by
   rintro m rfl
   simp[rO,hd5,Ng.cs]
  have hle1:=jH hb' ⟨rO (hd5 kind l.length),52⟩
  have hm:(sl.n:Int)=l.length:=by omega
  have heq:(⟨[Value.int .u8 1,.int .i64 0,.int .i64 0,.int .i64 ((sl.n:Int)+0+4),.int .i64 0,.string (B []),.int .u8 4,.int .i64 0,.int .i64 0,.int .i64 ((sl.n:Int)+0+3),.int .i64 0,.string (B [102]),.int .u8 14,.int .i64 0,.int .i64 0,.int .i64 0,.int .i64 0,.string (B []),.int .u8 6,.int .i64 0,.int .i64 0,.int .i64 ((sl.n:Int)+0+1),.int .i64 0,.string (B []),.int .u8 kind,.int .i64 0,.int .i64 0,.int .i64 ((sl.n:Int)+0),.int .i64 0,.string (B [])],52⟩:HO)=⟨rO (hd5 kind l.length),52⟩:=by rw[hcs _ hm]
  have hl5:(rO (hd5 kind l.length)).length=30:=by rw[zS];rfl
  rw[ae,dG]
  refine⟨rO (hd5 kind l.length),[],.inr ⟨b,⟨rO (hd5 kind l.length),52⟩,rfl,(au _ _ _).trans (congrArg some heq),rfl,hl5,Nat.le_refl _,?_,?_⟩,.inl ⟨rfl,rfl⟩,fun u hu=>(by cases hu),?_,?_,?_⟩
  · show 5≤maxLen;unfold maxLen;omega
  · exact (List.take_of_length_le (by rw[hl5];show 30≤5*6;omega)).symm
  · show 5+0≤maxLen;unfold maxLen;omega
  · show (5+0)*56≤_;omega
  intro s1 k1 g1 g2 g3 g4
  have g2':s1.n=5:=g2
  rw[List.append_nil] at g1
  have keep1:dP h k1:=fun c o hc=>g4 c o (fun x hx e=>by
   have hx':some (b,0)=some x:=hx
   cases hx'
   simp only at e
   rw[← e,hb'] at hc;cases hc) (by
    show (h.set b _) c=_
    rw[aU _ (fun e=>by rw[e,hb'] at hc;cases hc)];exact hc)
  have fr1:∀ y,s1.a=some y→h y.1=none:=fun y hy=>by
   rcases g3 y hy with ⟨z,hz,e⟩ | hn1
   · have hz':some (b,0)=some z:=hz
     cases hz'
     rw[← e];exact hb'
   · exact xX hb' hn1
  have R1:=NG.le R keep1
  rw[dG]
  refine⟨rO (hd5 kind l.length),rO l,g1,R1.rd,Xu l,?_,?_,?_⟩
  · show s1.n+sl.n≤maxLen;unfold maxLen;omega
  · show (s1.n+sl.n)*56≤_;omega
  intro s2 k2 q1 q2 q3 q4
  have q2':s2.n=s1.n+sl.n:=q2
  rw[ak,ep]
  refine hφ s2 k2 (fun c o hc=>q4 c o (fun x hx e=>?_) (keep1 c o hc)) ?_ (by omega)
  · have:=fr1 x hx
    rw[e,hc] at this;cases this
  · rw[Ho];exact q1
theorem Rz {h:Hp} {b:Nat} {lsl:bT} {l:List Ng} (R:NG h lsl l) (hl:l≠[]) (hb:h b=none):ng (h.set b ⟨prn b lsl false ⟨none,0,0⟩ 0,yI⟩) b lsl l false ⟨none,0,0⟩ 0 []:=by
 have hn:=NG.n R
 have hp:0<l.length:=List.length_pos_iff.2 hl
 obtain⟨c,o,ha⟩:=Rows.nn R (j:=0) (by omega)
 have hr:=NG.node R hp ha
 refine⟨⟨au _ _ _,.inl ⟨rfl,rfl⟩,rfl,fun z hz=>(by cases hz),fun _=>rfl,fun hz=>absurd rfl hz⟩,R.le (jH hb _),hl,fun z hz e=>?_,fun z y _ hy=>(by cases hy)⟩
 rw[ha] at hz
 cases hz
 simp only at e
 unfold hread at hr
 simp only at hr
 rw[e,hb] at hr
 cases hr
theorem O7 {h k k':Hp} {b:Nat} {sl':bT} {o:HO} (hle:dP h k) (hb:k b=none) (G:qF (k.set b o) k' b ⟨none,0,0⟩ sl'):dP h (k'.drop sl'):=fun c oo hc=>by
 have hk:=hle c oo hc
 have hcb:c≠b:=fun e=>by rw[e,hb] at hk;cases hk
 have hk':(k.set b o) c=some oo:=by rw[aU _ hcb];exact hk
 have h3:=G.keep c oo hcb (fun z hz=>by cases hz) hk'
 unfold Hp.drop
 cases hs:sl'.a with
 | none=>exact h3
 | some z=>
   have hzc:c≠z.1:=fun e=>by
    rcases G.new z hs with ⟨y,hy,_⟩ | hn
    · cases hy
    · rw[← e,hk'] at hn;cases hn
   show (k'.del z.1) c=some oo
   unfold Hp.del
   rw[if_neg hzc]
   exact h3
def Vd:Value:=.tuple #[.string (B []),.int .i64 1]
def yOk (s:List UInt8):Value:=.tuple #[.string (B s),.int .i64 0]
set_option maxHeartbeats 4000000 in
def Jq:Ct Tryz.prog where
 f:=9
 spec:=fun args h φ=>∃ sl l,args=[bT.val sl]∧NG h sl l∧l.length≤900000∧((qU l=false∧φ Vd h)∨∃ t:Tr,l=t.gs∧((zD (xB 12 t)=false∧φ Vd h)∨(zD (xB 12 t)=true∧jL t∧(tx t).length≤200000∧φ (yOk (tx t)) h)))
 ok:=by
  rintro args h φ w ⟨sl,l,rfl,R,hl,hφ⟩ hH
  refine dR (bJ Tryz.func9 Oq UG [pR,Qr,xQ,mr (tC 1000000),tV] (fun v k=>∃ k',dP k' k∧φ v k') (di) (bF) ⟨[],[],[],[],[sl],[],h,dM⟩ ⟨rfl,rfl,rfl,rfl,rfl,rfl⟩ af ?_ w hH rfl)
  generalize hE:(⟨az _,_,_,_⟩:Env)=E
  have s_ctTRight:E.spec 23=(pR).spec:=by rw[← hE];rfl
  have s_ctYWrap:E.spec 25=(Qr).spec:=by rw[← hE];rfl
  have s_ctTMay:E.spec 24=(xQ).spec:=by rw[← hE];rfl
  have s_ctE:E.spec 26=(mr (tC 1000000)).spec:=by rw[← hE];rfl
  have s_ctPString:E.spec 27=(tV).spec:=by rw[← hE];rfl
  have ep:E.post=(fun v k=>∃ k',dP k' k∧φ v k'):=by rw[← hE]
  clear hE
  unfold EZ
  rw[ag,if_pos (by rfl),s_ctTRight]
  refine⟨sl,l,rfl,R,by omega,?_⟩
  refine⟨fun h=>(by cases h),(ai _ _).2 ⟨⟨[],[qU l],[],[],[],[]⟩,rfl,af,rfl,?_⟩⟩
  rcases hφ with ⟨hr,hφ⟩ | ⟨t,rfl,hφ⟩
  · rw[hr]
    rw[ae,ag,if_neg (by simp[go_sem]),ae,ag,if_neg (by simp[go_sem]),ae,ah,if_pos (by simp[go_sem])]
    rw[ae,ak,ep]
    exact⟨h,fun _ _ h=>h,hφ⟩
  rw[zg]
  have htn:=nK t
  rw[ae,ag,if_pos (by rfl),s_ctYWrap]
  refine⟨sl,t.gs,12,rfl,R,by omega,fun s' k hle ho hsn=>?_⟩
  have hle':dP h k:=hle
  refine⟨fun h=>(by cases h),(ai _ _).2 ⟨⟨[],[],[],[],[s'],[]⟩,rfl,af,rfl,?_⟩⟩
  have NR:NG k s' (xB 12 t).gs:=by
   rw[MR,← htn]
   exact Rows.Ie ho
  have hwl:(xB 12 t).gs.length≤1000000:=by
   rw[MR,List.length_append]
   show 5+_≤_
   omega
  rw[ae,ag,if_pos (by rfl),s_ctTMay]
  refine⟨s',_,rfl,NR,hwl,.inr ⟨_,rfl,?_⟩⟩
  refine⟨fun h=>(by cases h),(ai _ _).2 ⟨⟨[],[zD (xB 12 t)],[],[],[],[]⟩,rfl,af,rfl,?_⟩⟩
  rcases hφ with ⟨hm,hφ⟩ | ⟨hm,W,hlen,hφ⟩
  · rw[hm]
    rw[ae,ah,if_pos (by simp[go_sem])]
    rw[ae,ak,ep]
    exact⟨h,hle',hφ⟩
  · rw[hm]
    rw[ae,ah,if_neg (by simp[go_sem]),ae,fC]
    intro b hb
    have hb':k b=none:=hb
    have hne:t.gs≠[]:=by
     obtain⟨r,hr,_⟩:=wG t
     rw[hr];simp
    have X:=Rz (NG.le R hle') hne hb'
    rw[ae,ag,if_pos (by rfl),s_ctE]
    refine⟨b,sl,t.gs,false,⟨none,0,0⟩,0,[],0,t,rfl,X,⟨[],[],by simp,rfl⟩,W,by omega,by omega,⟨by omega,by simp;omega⟩,fun u1 s1 k1 X1 G1=>?_⟩
    refine⟨fun h=>(by cases h),(ai _ _).2 ⟨⟨[],[],[],[],[],[]⟩,rfl,af,rfl,?_⟩⟩
    rw[ae,aj];refine⟨by simp[go_sem]<;>omega,?_⟩
    rw[ae,aj];refine⟨by simp[go_sem]<;>omega,?_⟩
    rw[ae,ag,if_pos (by rfl),s_ctPString]
    refine⟨b,sl,u1,s1,0,_,rfl,X1.prn,?_⟩
    refine⟨fun h=>(by cases h),(ai _ _).2 ⟨⟨[],[],[tx t],[],[],[]⟩,rfl,af,rfl,?_⟩⟩
    rw[ae,ak,ep]
    exact⟨h,O7 hle' hb' G1,hφ⟩
end Go.Proofs.YtllbpdllkkcajaaGreatDoor
namespace Go.Proofs.YtllbpdllkkcajaaGreatDoor
open Go.RowKit
attribute [local go_sem] bI bH aj ah ag aS ax aQ ak says_again BE.den IE.den SE.den LE.den AE.den CE.den PE.den VE.den KV.val dO.den dO.cnt jO fD jX allL Ctx.push Ctx.heap Ctx.cut Ctx.bare Ctx.mark Inc.blank List.getD_cons_zero List.getD_cons_succ List.cons_append List.nil_append List.append_nil List.map_cons List.map_nil List.replicate_zero List.replicate_succ az dm bY dh cO dK dJ bC bz bD bW bV aH aX aI aG au aP aO dH af and_assoc
def BC:Fm:=(.C 24 [.L 0] (.p (.B 0)) ⟨0,1,0,0,0,0⟩
 (.ite (.not (.x 0))
 (.ret (.tup [.W [],(.I (.c 1))]))
 (.new [(.sl (.x 0)),(.c .nilp),(.sl .nil),(.i .i64 (.c 0))] 48
 (.C 38 [.P 0,(.I (.c 0))] (.p (.L 1)) ⟨0,0,0,0,1,0⟩
 (.loop 0 ⟨[(.c 0)],[],[],[],[],[]⟩
 (.ite (.lt (.x 0) (.cnt (.x 1)))
 (.N (.X (.x 0) (.x 1))
 (.O (.el (.x 1) (.x 0) 1 0) 1 [.J 1] ⟨1,0,0,0,0,0⟩
 (.N (.X (.x 1) (.x 0))
 (.N (.nns (.x 0))
 (.O (.el (.x 0) (.x 1) 6 0) 1 [.U 2] ⟨1,0,0,0,0,0⟩
 (.ite (.eqI (.x 2) (.c 2))
 (.V 39 [.P 0,.J 1]
 (.mk [(.s (.c [10]))] 9 1
 (.V 41 [.P 0,.L 2]
 (.N (.R (.add (.x 0) (.c 1)))
 (.again 0 ⟨0,1,0,0,2,1⟩ ⟨1,1,0,0,2,1⟩ ⟨[(.add (.x 0) (.c 1))],[],[],[],[],[]⟩)))))
 (.V 40 [.P 0,.J 1]
 (.mk [(.s (.c [10]))] 9 1
 (.V 41 [.P 0,.L 2]
 (.N (.R (.add (.x 0) (.c 1)))
 (.again 0 ⟨0,1,0,0,2,1⟩ ⟨1,1,0,0,2,1⟩ ⟨[(.add (.x 0) (.c 1))],[],[],[],[],[]⟩)))))))))))
 (.Z 0
 (.Z 0
 (.C 27 [(.one (.adr (.pt 0 1)))] (.p (.S 0)) ⟨0,0,1,0,0,0⟩
 (.ret (.tup [.S 0,(.I (.c 0))])))))))))))
theorem Fg:bG ⟨true,[12]⟩ Tryz.prog (fun l=>([⟨[16],[17,18,19,6,20,21,22,23,24,25,26,27,28,29,30,31,32,33,34,35],[]⟩]:List bZ).getD l ⟨[],[],[]⟩) Tryz.f18=BC:=by kernel_rfl
theorem LK:aF Tryz.prog .zero Tryz.f18.params.toList=some ([.L 0],⟨0,0,0,0,1,0⟩):=by kernel_rfl
inductive Vk:Tr→Prop
 | rc (l c n:Int) (x:List UInt8) (fs:List Tr) (h:∀ t∈fs,xJ 3 t):Vk (.nd 2 l c n x fs)
 | fn (l c:Int) (x:List UInt8) (ps:List Tr) (r d:Tr) (h:∀ t∈ps,xJ 5 t) (hr:r.k=14∨vK r) (hd:Nc d):Vk (.nd 4 l c ps.length x (ps++[r,d]))
theorem Sz (l c n:Int) (x:List UInt8) (fs:List Tr):lM (.nd 2 l c n x fs)=y9 x fs:=by simp[lM]
theorem Sv (l c:Int) (x:List UInt8) (ps:List Tr) (r d:Tr):lM (.nd 4 l c ps.length x (ps++[r,d]))=Eb x ps r d:=by simp[lM]
def DZ (k0:Hp) (b:Nat) (lsl:bT) (l:List Ng) (ks:List Tr) (_:Nat) (C:Ctx):Prop:=
 ∃ (j:Nat) (u:Bool) (s s':bT) (k:Hp) (pre rest:List Tr) (a:List UInt8),C=⟨[(j:Int)],[true],[],[],[lsl,s],[some (b,0)],k,dM⟩∧ks=pre++rest∧pre.length=j∧ng k b lsl l u s' ((0:Nat):Int) a∧qF k0 k b ⟨none,0,0⟩ s'∧jg k s (places ((1:Nat):Int) ks)∧a++eU rest=eU ks
set_option maxHeartbeats 8000000 in
def Qp:Ct Tryz.prog where
 f:=18
 spec:=fun args h φ=>∃ sl l,args=[bT.val sl]∧NG h sl l∧l.length≤1000000∧((qU l=false∧φ Vd h)∨∃ t:Tr,l=t.gs∧((zD t=false∧φ Vd h)∨(zD t=true∧∃ ln c n x ks,t=.nd 1 ln c n x ks∧(∀ k∈ks,Vk k)∧(eU ks).length≤1000000000000∧φ (yOk (eU ks)) h)))
 ok:=by
  rintro args h φ w ⟨sl,l,rfl,R,hl,hφ⟩ hH
  by_cases hbad:(qU l=false∧φ Vd h)∨∃ t:Tr,l=t.gs∧zD t=false∧φ Vd h
  ·
   refine dR (bJ Tryz.func18 Fg LK [xQ] (fun v k=>∃ k',dP k' k∧φ v k') (di) (bF) ⟨[],[],[],[],[sl],[],h,dM⟩ ⟨rfl,rfl,rfl,rfl,rfl,rfl⟩ af ?_ w hH rfl)
   generalize hE:(⟨az _,_,_,_⟩:Env)=E
   have s_ctTMay:E.spec 24=(xQ).spec:=by rw[← hE];rfl
   have ep:E.post=(fun v k=>∃ k',dP k' k∧φ v k'):=by rw[← hE]
   clear hE
   unfold BC
   rw[ag,if_pos (by rfl),s_ctTMay]
   refine⟨sl,l,rfl,R,hl,?_⟩
   rcases hbad with ⟨hr,hφ2⟩ | ⟨t,ht,hm,hφ2⟩
   · refine .inl ⟨hr,?_⟩
     refine⟨fun h=>(by cases h),(ai _ _).2 ⟨⟨[],[false],[],[],[],[]⟩,rfl,af,rfl,?_⟩⟩
     rw[ae,ah,if_pos (by simp[go_sem])]
     rw[ae,ak,ep]
     exact⟨h,fun _ _ h=>h,hφ2⟩
   · refine .inr ⟨t,ht,?_⟩
     rw[hm]
     refine⟨fun h=>(by cases h),(ai _ _).2 ⟨⟨[],[false],[],[],[],[]⟩,rfl,af,rfl,?_⟩⟩
     rw[ae,ah,if_pos (by simp[go_sem])]
     rw[ae,ak,ep]
     exact⟨h,fun _ _ h=>h,hφ2⟩
  rcases hφ with h0 | ⟨t,rfl,h0 | ⟨hm,ln,c,n,x,ks,rfl,W,hlen,hφ⟩⟩
  · exact absurd (.inl h0) hbad
  · exact absurd (.inr ⟨t,rfl,h0.1,h0.2⟩) hbad
  clear hbad
  have hgl:=nK (Tr.nd 1 ln c n x ks)
  have hnn:(Tr.nd 1 ln c n x ks).n=Tr.ns ks+1:=by rw[uA,Tr.sz,qZ]
  have P:Ps (Tr.nd 1 ln c n x ks).gs 0 (.nd 1 ln c n x ks):=⟨[],[],by simp,rfl⟩
  have hne:(Tr.nd 1 ln c n x ks).gs≠[]:=by
   obtain⟨r,hr,_⟩:=wG (Tr.nd 1 ln c n x ks)
   rw[hr];simp
  obtain⟨hpl,hpt⟩:=P.node
  have PK:=P.kids
  generalize hlg:(Tr.nd 1 ln c n x ks).gs=l at *
  have hks:=uI ks
  refine dR (bJ Tryz.func18 Fg LK [xQ,kF,VS,abp,iK,tV] (fun v k=>∃ k',dP k' k∧φ v k') (fun o C=>∃ (k0:Hp) (b:Nat),dP h k0∧k0 b≠none∧DZ k0 b sl l ks o C∧h b=none∧(∀ c o,h c=some o→c≠b)) (fun _ C=>((ks.length:Int) - C.i.getD 0 0).toNat) ⟨[],[],[],[],[sl],[],h,dM⟩ ⟨rfl,rfl,rfl,rfl,rfl,rfl⟩ af ?_ w hH rfl)
  generalize hE:(⟨az _,_,_,_⟩:Env)=E
  have s_ctTMay:E.spec 24=(xQ).spec:=by rw[← hE];rfl
  have s_ctYKids:E.spec 38=(kF).spec:=by rw[← hE];rfl
  have s_ctYRec:E.spec 39=(VS).spec:=by rw[← hE];rfl
  have s_ctYFn:E.spec 40=(abp).spec:=by rw[← hE];rfl
  have s_ctYPut:E.spec 41=(iK).spec:=by rw[← hE];rfl
  have s_ctPString:E.spec 27=(tV).spec:=by rw[← hE];rfl
  have ep:E.post=(fun v k=>∃ k',dP k' k∧φ v k'):=by rw[← hE]
  have ei:E.inv=(fun o C=>∃ (k0:Hp) (b:Nat),dP h k0∧k0 b≠none∧DZ k0 b sl l ks o C∧h b=none∧(∀ c o,h c=some o→c≠b)):=by rw[← hE]
  have em:E.meas=(fun _ C=>((ks.length:Int) - C.i.getD 0 0).toNat):=by rw[← hE]
  clear hE
  unfold BC
  rw[ag,if_pos (by rfl),s_ctTMay]
  refine⟨sl,l,rfl,R,hl,.inr ⟨_,hlg.symm,?_⟩⟩
  rw[hm]
  refine⟨fun h=>(by cases h),(ai _ _).2 ⟨⟨[],[true],[],[],[],[]⟩,rfl,af,rfl,?_⟩⟩
  rw[ae,ah,if_neg (by simp[go_sem]),ae,fC]
  intro b hb
  have hb':h b=none:=hb
  have X:=Rz R hne hb'
  have hle0:dP h (h.set b ⟨prn b sl false ⟨none,0,0⟩ 0,yI⟩):=jH hb' _
  rw[ae,ag,if_pos (by rfl),s_ctYKids]
  refine⟨b,sl,l,0,((Tr.ns ks:Nat):Int),ks.length,places (((0:Nat):Int)+1) ks,_,_,rfl,X.prn.at_,X.row,hl,by omega,⟨l[0],List.getElem?_eq_getElem hpl,by rw[hpt];rfl⟩,by omega,by omega,P.iU (Nat.le_refl _),fun s k_3 hle ho hsn=>?_⟩
  refine⟨fun h=>(by cases h),(ai _ _).2 ⟨⟨[],[],[],[],[s],[]⟩,rfl,af,rfl,?_⟩⟩
  have R0:=jg.own ho hsn
  have X_1:=X.le hle
  have hle1:dP (h.set b ⟨prn b sl false ⟨none,0,0⟩ 0,yI⟩) k_3:=hle
  rw[ae]
  refine ny ?_ ?_
  · rw[ei]
    refine⟨k_3,b,dP.trans hle0 hle1,X_1.prn.nn,⟨0,_,s,_,_,[],ks,[],rfl,rfl,rfl,X_1,qF.refl _ _ _,R0,by simp⟩,hb',fun c o hc e=>?_⟩
    rw[e,hb'] at hc;cases hc
  rintro⟨xi,xb,xs,xv,xl,xp⟩ h' M' hc hinv hm2 hM1
  rw[ei] at hinv
  rw[em] at hm2
  obtain⟨k0,b2,hlek,hk0,⟨j,u5,s5,s6,k5,pre,rest,a,hC,hks5,hj5,X5,G5,R5,ha⟩,hb2,hcb⟩:=hinv
  simp[Ctx.push,Ctx.heap,Ctx.bare] at hC
  obtain⟨rfl,rfl,rfl,rfl,⟨rfl,rfl⟩,⟨rfl,rfl⟩,rfl⟩:=hC
  clear hc hM1 X_1 X R0 ho hle hle1 hle0
  have hm':M' 0=((ks.length:Int) - (j:Int)).toNat:=hm2
  have hsn5:s.n=ks.length:=by rw[R5.n,fF]
  have hlen5:ks.length=j+rest.length:=by rw[hks5,List.length_append,hj5]
  cases rest with
  | nil=>
    rw[List.length_nil] at hlen5
    rw[ah,if_neg (by simp[go_sem];omega)]
    rw[eU,List.append_nil] at ha
    subst ha
    rw[ae,aj];refine⟨by simp[go_sem]<;>omega,?_⟩
    rw[ae,aj];refine⟨by simp[go_sem]<;>omega,?_⟩
    rw[ae,ag,if_pos (by rfl),s_ctPString]
    refine⟨b,sl,u5,s6,_,_,rfl,X5.prn,?_⟩
    refine⟨fun h=>(by cases h),(ai _ _).2 ⟨⟨[],[],[eU ks],[],[],[]⟩,rfl,af,rfl,?_⟩⟩
    rw[ae,ak,ep]
    refine⟨h,fun c oo hc=>?_,hφ⟩
    have hk3:=G5.keep c oo (hcb c oo hc) (fun z hz=>by cases hz) (hlek c oo hc)
    show (h'.drop s6) c=some oo
    unfold Hp.drop
    cases hs:s6.a with
    | none=>exact hk3
    | some z=>
      have hzc:c≠z.1:=fun e=>by
       rcases G5.new z hs with ⟨y,hy,_⟩ | hn
       · cases hy
       · rw[← e,hlek c oo hc] at hn;cases hn
      show (h'.del z.1) c=some oo
      unfold Hp.del
      rw[if_neg hzc]
      exact hk3
  | cons t rest=>
    rw[List.length_cons] at hlen5
    obtain⟨P1,hpa⟩:=ui PK hks5
    have hWt:Vk t:=W t (by rw[hks5];simp)
    rw[hj5] at hpa
    obtain⟨q_5,y_5,hq_5,hj_5,hr_5⟩:=iT R5 j _ hpa
    obtain⟨c6,o6,ha6,hp6,_,hk6⟩:=X5.cell P1
    have hnext:∀ (u8:Bool) (s9:bT) (k8:Hp),ng k8 b sl l u8 s9 ((0:Nat):Int) (a++(lM t++[10]))→qF k0 k8 b ⟨none,0,0⟩ s9→jg k8 s (places ((1:Nat):Int) ks)→DZ k0 b sl l ks 0 ⟨[(j:Int)+1],[true],[],[],[sl,s],[some (b,0)],k8,dM⟩:=fun u8 s9 k8 X8 G8 R8=>
     ⟨j+1,u8,s,s9,k8,pre++[t],rest,a++(lM t++[10]),rfl,by rw[hks5];simp,by simp[hj5],X8,G8,R8,by rw[← ha,eU];simp⟩
    have hAl:=congrArg List.length ha
    rw[eU] at hAl
    simp only[List.length_append,List.length_cons] at hAl
    rw[ah,if_pos (by simp[go_sem];omega)]
    rw[ae,aj];refine⟨by simp[go_sem,hq_5]<;>omega,?_⟩
    rw[ae,ax,if_pos (by rfl)]
    refine (ai _ _).2 ⟨⟨[((0+1+Tr.ns pre:Nat):Int)],[],[],[],[],[]⟩,rfl,af,by simpa[go_sem,hq_5] using hr_5,?_⟩
    rw[ae,aj];refine⟨by simp[go_sem,ha6]<;>omega,?_⟩
    rw[ae,aj];refine⟨by simp[go_sem,ha6]<;>omega,?_⟩
    rw[ae,ax,if_pos (by rfl)]
    refine (ai _ _).2 ⟨⟨[t.g.k],[],[],[],[],[]⟩,rfl,af,(congrArg (fun q=>hread h' q 1) (show _=some (c6,o6+(0+1+Tr.ns pre)*6+0) by simp[go_sem,ha6];omega)).trans hk6,?_⟩
    cases hWt with
    | rc lt ct nt xt fs hf=>
      rw[Sz] at hnext hAl
      rw[ae,ah,if_pos (by simp[go_sem,Tr.g])]
      rw[ae,ag,if_pos (by rfl),s_ctYRec]
      refine⟨b,sl,l,u5,s6,_,a,0+1+Tr.ns pre,lt,ct,nt,xt,fs,rfl,X5,P1,hf,hl,⟨by omega,by omega⟩,fun u7 s8 k7 X7 G7=>?_⟩
      refine⟨fun h=>(by cases h),(ai _ _).2 ⟨⟨[],[],[],[],[],[]⟩,rfl,af,rfl,?_⟩⟩
      rw[ae,aT];intro b_8 hb_8
      rw[ae,ag,if_pos (by rfl),s_ctYPut]
      refine aY (ss:=[[10]]) X7 hb_8 (by simp;omega) (by simp) fun u8 s9 k8 X8 G8=>?_
      refine⟨fun h=>(by cases h),(ai _ _).2 ⟨⟨[],[],[],[],[],[]⟩,rfl,af,rfl,?_⟩⟩
      rw[ae,aj];refine⟨by simp[go_sem]<;>omega,?_⟩
      rw[ae,says_again,ei,em]
      refine⟨⟨k0,b,hlek,hk0,hnext u8 s9 k8 (by simpa using X8) ((G5.trans G7 X5.prn.nn).trans G8 X7.prn.nn) ((R5.go X5.prn G7).go X7.prn G8),hb2,hcb⟩,?_⟩
      show (((ks.length:Int) - ((j:Int)+1)).toNat)<M' 0
      omega
    | fn lt ct xt ps r d hp hr hd=>
      rw[Sv] at hnext hAl
      rw[ae,ah,if_neg (by simp[go_sem,Tr.g])]
      rw[ae,ag,if_pos (by rfl),s_ctYFn]
      refine⟨b,sl,l,u5,s6,a,0+1+Tr.ns pre,lt,ct,_,xt,ps,r,d,rfl,X5,P1,hp,hr,hd,hl,⟨by omega,by omega⟩,fun u7 s8 k7 X7 G7=>?_⟩
      refine⟨fun h=>(by cases h),(ai _ _).2 ⟨⟨[],[],[],[],[],[]⟩,rfl,af,rfl,?_⟩⟩
      rw[ae,aT];intro b_8 hb_8
      rw[ae,ag,if_pos (by rfl),s_ctYPut]
      refine aY (ss:=[[10]]) X7 hb_8 (by simp;omega) (by simp) fun u8 s9 k8 X8 G8=>?_
      refine⟨fun h=>(by cases h),(ai _ _).2 ⟨⟨[],[],[],[],[],[]⟩,rfl,af,rfl,?_⟩⟩
      rw[ae,aj];refine⟨by simp[go_sem]<;>omega,?_⟩
      rw[ae,says_again,ei,em]
      refine⟨⟨k0,b,hlek,hk0,hnext u8 s9 k8 (by simpa using X8) ((G5.trans G7 X5.prn.nn).trans G8 X7.prn.nn) ((R5.go X5.prn G7).go X7.prn G8),hb2,hcb⟩,?_⟩
      show (((ks.length:Int) - ((j:Int)+1)).toNat)<M' 0
      omega
end Go.Proofs.YtllbpdllkkcajaaGreatDoor
namespace Go.Proofs.YtllbpdllkkcajaaGreatDoor
open Go.RowKit
theorem lL (k l c n:Int) (x:List UInt8) (ks:List Tr):(Tr.nd k l c n x ks).g=⟨k,l,c,(Tr.ns ks:Nat),n,x⟩:=rfl
def vw (s:Tr):Bool:=fieldsB s.g&&fZ s.g.k s.g.n (s.kl.map Tr.g)
def rX (t:Tr):Bool:=t.subs.all vw
theorem FO:∀ (l:List Tr) (i:Nat),CS (i+1) l=l.all vw
 | [],_=>rfl
 | s::r,i=>by
   rw[CS,FO r,List.all_cons]
   unfold okI vw
   rw[if_neg (Nat.succ_ne_zero i)]
theorem yA:∀ ks:List Tr,(Tr.xg ks).all vw=ks.all rX
 | []=>rfl
 | t::ts=>by rw[Tr.xg,List.all_append,yA ts,List.all_cons,rX]
theorem dL (k l c n:Int) (x:List UInt8) (ks:List Tr):rX (.nd k l c n x ks)=(vw (.nd k l c n x ks)&&ks.all rX):=by
 rw[rX,Tr.subs,List.all_cons,yA]
theorem Q9 (k l c n:Int) (x:List UInt8) (ks:List Tr):zD (.nd k l c n x ks)=(decide (k=1)&&fieldsB (Tr.nd k l c n x ks).g&&((ks.map Tr.g).all (wO [2,4])&&ks.all rX)):=by
 rw[zD,Tr.subs,CS,FO,yA]
 rfl
theorem ji {x:List UInt8} (h:uB x):dw y7 x=true:=by
 obtain⟨h1,h2,h3,_⟩:=h
 cases x with
 | nil=>simp[bt,lD] at h1
 | cons c r=>
   rw[iG] at h1
   have ha:(c::r).all (fun c=>inB c.toNat)=true:=List.all_eq_true.2 h2
   rw[dw,h3,ha]
   have:y7 c.toNat=true:=by
    unfold lD at h1
    unfold y7
    simp only[Bool.or_eq_true,beq_iff_eq,Bool.and_eq_true,cO]
    split at h1
    · omega
    · split at h1
      · omega
      · split at h1<;>omega
   rw[this];rfl
theorem uF {x:List UInt8} (h:uQ x):dw Oy x=true:=by
 obtain⟨h1,h2,_⟩:=h
 cases x with
 | nil=>simp[bt,lD] at h1
 | cons c r=>
   have hw:lN (c::r)=false:=by
    cases hq:lN (c::r) with
    | false=>rfl
    | true=>
      have hall:∀ w∈W16,lD (bt w 0)≠2:=by decide
      have hm:(c::r)∈W16:=by simpa[lN] using hq
      exact absurd h1 (hall _ hm)
   rw[iG] at h1
   have ha:(c::r).all (fun c=>inB c.toNat)=true:=List.all_eq_true.2 h2
   rw[dw,hw,ha]
   have:Oy c.toNat=true:=by
    unfold lD at h1
    unfold Oy
    simp only[Bool.and_eq_true,cO]
    split at h1
    · omega
    · split at h1
      · omega
      · split at h1<;>omega
   rw[this];rfl
theorem abU {t:Tr} (W:vK t):wTy t.g=true:=by
 cases W with
 | word k l c h=>simp[Em,lL];omega
 | big=>rfl
 | list=>rfl
theorem mZ {t:Tr} (W:jL t):wE t.g=true:=by
 cases W<;>rfl
theorem Zh:∀ {ts:List Tr},rJ ts→(ts.map Tr.g).all wE=true
 | [],_=>rfl
 | t::ts,.cons _ _ h hs=>by rw[List.map_cons,List.all_cons,mZ h,Zh hs];rfl
theorem xy {t:Tr} (W:vK t):rX t=true:=by
 induction W with
 | word k l c h=>
   rw[dL]
   have:k=15∨k=16∨k=17∨k=18:=by omega
   rcases this with rfl | rfl | rfl | rfl<;>rfl
 | big l c x h=>
   rw[dL]
   simp[vw,lL,Tr.kl,fieldsB,fZ,rowB,uF h]
 | list l c t h ih=>
   rw[dL]
   have:=abU h
   simp only[List.all_cons,List.all_nil,ih,Bool.and_true]
   simp only[vw,lL,Tr.kl,fieldsB,fZ,rowB,List.map_cons,List.map_nil]
   simp[this]
theorem SI (l c z n:Int) (h:n=12∨n=13):fieldsB ⟨30,l,c,z,n,[]⟩=true:=by
 rcases h with rfl | rfl<;>rfl
theorem NP (l c z n:Int) (h:(1≤n∧n≤11)∨n=14∨n=15):fieldsB ⟨31,l,c,z,n,[]⟩=true:=by
 have:n=1∨n=2∨n=3∨n=4∨n=5∨n=6∨n=7∨n=8∨n=9∨n=10∨n=11∨n=14∨n=15:=by omega
 rcases this with rfl | rfl | rfl | rfl | rfl | rfl | rfl | rfl | rfl | rfl | rfl | rfl | rfl<;>rfl
mutual
theorem ig:∀ {t:Tr},jL t→rX t=true
 | _,.int l c n h=>by rw[dL];simp[vw,lL,Tr.kl,fieldsB,fZ,rowB,leB,h.1]
 | _,.comp l c n h=>by rw[dL];simp[vw,lL,Tr.kl,fieldsB,fZ,rowB,leB,Ui,h.1,show n<8388608 by omega]
 | _,.str l c x _=>by rw[dL];simp[vw,lL,Tr.kl,fieldsB,fZ,rowB]
 | _,.bool l c n h=>by rw[dL];rcases h with rfl | rfl<;>rfl
 | _,.nil l c=>by rw[dL];rfl
 | _,.name l c x h=>by rw[dL];simp[vw,lL,Tr.kl,fieldsB,fZ,rowB,ji h]
 | _,.call l c x h ks hk=>by
   have h1:=ML hk
   have h2:=Zh hk
   rw[dL,h1]
   simp only[vw,lL,Tr.kl,fieldsB,fZ]
   simp[ji h,h2]
 | _,.index l c a b ha hb=>by
   rw[dL,List.all_cons,List.all_cons,ig ha,ig hb]
   have h1:=mZ ha
   have h2:=mZ hb
   simp[vw,lL,Tr.kl,fieldsB,fZ,rowB,h1,h2]
 | _,.dot l c x h a ha=>by
   rw[dL,List.all_cons,ig ha]
   have h1:=mZ ha
   simp[vw,lL,Tr.kl,fieldsB,fZ,rowB,h1,ji h]
 | _,.un l c n h a ha=>by
   rw[dL,List.all_cons,ig ha]
   have h1:=mZ ha
   rw[vw,lL,SI _ _ _ _ h]
   simp[Tr.kl,fZ,rowB,h1]
 | _,.bin l c n h a b ha hb=>by
   rw[dL,List.all_cons,List.all_cons,ig ha,ig hb]
   have h1:=mZ ha
   have h2:=mZ hb
   rw[vw,lL,NP _ _ _ _ h]
   simp[Tr.kl,fZ,rowB,h1,h2]
 | _,.make l c l' c' x h=>by
   rw[dL,List.all_cons,xy (.big l' c' x h)]
   rfl
 | _,.makes l c l' c' t ht b hb=>by
   rw[dL,List.all_cons,List.all_cons,xy (.list l' c' t ht),ig hb]
   have h2:=mZ hb
   simp[vw,lL,Tr.kl,fieldsB,fZ,rowB,h2]
theorem ML:∀ {ts:List Tr},rJ ts→ts.all rX=true
 | [],_=>rfl
 | t::ts,.cons _ _ h hs=>by rw[List.all_cons,ig h,ML hs];rfl
end
theorem Xk {t:Tr} (W:jL t):zD (xB 12 t)=true:=by
 have h1:=mZ W
 have h2:=ig W
 unfold xB
 rw[Q9]
 simp only[List.all_cons,List.all_nil,dL,h2,Bool.and_true]
 have e:fZ 12 0 [t.g]=true:=by simp[fZ,stB,rowB,h1]
 have f:dw y7 [102]=true:=by decide
 simp only[vw,Tr.kl,List.map_cons,List.map_nil]
 simp[lL,fieldsB,f,fZ,fnB,stB,rowB,h1,leB]
 simp[Em]
end Go.Proofs.YtllbpdllkkcajaaGreatDoor
namespace Go.Proofs.YtllbpdllkkcajaaGreatDoor
open Go.RowKit
mutual
def D8:Tr→Nat
 | .nd k _ _ _ _ ks=>
   if k=7 then (match ks with | a::b::_=>max (wJ a) (dp b) | _=>0)
   else if k=8 then (match ks with | a::b::_=>max (dp a) (dp b) | _=>0)
   else if k=9 then (match ks with | a::bs=>max (dp a) (GZ bs) | _=>0)
   else if k=10 then (match ks with | a::b::_=>max (dp a) (VX b) | _=>0)
   else (match ks with | a::_=>dp a | []=>0)
def VX:Tr→Nat
 | .nd _ _ _ _ _ ks=>uT ks+1
def GZ:List Tr→Nat
 | []=>0
 | b::bs=>max (VX b) (GZ bs)
def uT:List Tr→Nat
 | []=>0
 | t::ts=>max (D8 t) (uT ts)
end
def Zt:Tr→Nat
 | .nd _ _ _ _ _ ks=>match ks with | k::_=>wJ k | []=>0
def nM:List Tr→Nat
 | []=>0
 | t::ts=>max (Zt t) (nM ts)
def SH (ps:List Tr) (r b:Tr):Nat:=max (nM ps+1) (max (wJ r) (VX b))
def oO:Tr→Nat
 | .nd k _ _ n _ ks=>if k=2 then nM ks+1 else match ks.drop n.toNat with
   | r::b::_=>SH (ks.take n.toNat) r b
   | _=>0
def lu:List Tr→Nat
 | []=>0
 | t::ts=>max (oO t) (lu ts)
section
variable (l c n:Int) (x:List UInt8)
theorem Qv (a b:Tr):D8 (.nd 7 l c n x [a,b])=max (wJ a) (dp b):=by rw[D8.eq_def];simp
theorem Qu (a b:Tr):D8 (.nd 8 l c n x [a,b])=max (dp a) (dp b):=by rw[D8.eq_def];simp
theorem G9 (a:Tr) (bs:List Tr):D8 (.nd 9 l c n x (a::bs))=max (dp a) (GZ bs):=by rw[D8.eq_def];simp
theorem Ez (a b:Tr):D8 (.nd 10 l c n x [a,b])=max (dp a) (VX b):=by rw[D8.eq_def];simp
theorem Jt (a:Tr):D8 (.nd 11 l c n x [a])=dp a:=by rw[D8.eq_def];simp
theorem Ey (a:Tr):D8 (.nd 12 l c n x [a])=dp a:=by rw[D8.eq_def];simp
theorem VY (a:Tr):D8 (.nd 13 l c n x [a])=dp a:=by rw[D8.eq_def];simp
theorem NL (k:Int) (ks:List Tr):VX (.nd k l c n x ks)=uT ks+1:=by rw[VX.eq_def]
end
def IU:List (List UInt8):=[jv,gB,oz,eP,[40],[45],[33]]
theorem Y4 {t:Tr} (w:jL t):∃ k n x S,dN t=(k,n,x)::S∧((k=6∨k=7)→x∈IU):=by
 have brk':∀ {a:Tr} {b:Bool} {S:List T3},(∃ k n x S,dN a=(k,n,x)::S∧((k=6∨k=7)→x∈IU))→∃ k n x S',rD b (dN a)++S=(k,n,x)::S'∧((k=6∨k=7)→x∈IU):=by
  rintro a b S ⟨k,n,x,S',e,h1⟩
  cases b with
  | true=>exact⟨7,0,[40],_,rfl,fun _=>by decide⟩
  | false=>
    unfold rD
    rw[if_neg (by decide),e]
    exact⟨k,n,x,_,rfl,h1⟩
 refine jL.rec (motive_1:=fun t _=>∃ k n x S,dN t=(k,n,x)::S∧((k=6∨k=7)→x∈IU)) (motive_2:=fun _ _=>True) ?_ ?_ ?_ ?_ ?_ ?_ ?_ ?_ ?_ ?_ ?_ ?_ ?_ ?_ ?_ w
 · intro l c n h
   exact⟨3,n,[],[],rfl,fun h=>by omega⟩
 · intro l c n h
   exact⟨4,n,[],[],rfl,fun h=>by omega⟩
 · intro l c x _
   exact⟨5,0,x,[],rfl,fun h=>by omega⟩
 · intro l c n h
   rcases h with rfl | rfl
   · exact⟨6,0,gB,[],rfl,fun _=>by decide⟩
   · exact⟨6,0,jv,[],rfl,fun _=>by decide⟩
 · intro l c
   exact⟨6,0,oz,[],rfl,fun _=>by decide⟩
 · intro l c x h
   exact⟨1,0,x,[],by rw[dN.eq_def];simp,fun h=>by omega⟩
 · intro l c x h ks _ _
   exact⟨1,0,x,_,Ar ..,fun h=>by omega⟩
 · intro l c a b _ _ ia _
   rw[xk];exact brk' ia
 · intro l c x _ a _ ia
   rw[IK];exact brk' ia
 · intro l c n h a _ _
   rw[RY]
   exact⟨7,0,[if n=12 then 45 else 33],_,rfl,fun _=>by rcases h with rfl | rfl<;>decide⟩
 · intro l c n h a b _ _ ia _
   rw[IJ];exact brk' ia
 · intro l c l' c' x _
   exact⟨6,0,eP,_,o8 ..,fun _=>by decide⟩
 · intro l c l' c' t _ b _ _
   exact⟨6,0,eP,_,o8 ..,fun _=>by decide⟩
 · trivial
 · intro t ts _ _ _ _;trivial
section
variable {L:List Tok} {S T:List T3} {a:Nat} {d:Int}
theorem adq {k n:Int} {x:List UInt8} (h:df L a ((k,n,x)::T)) (hx:(k=6∨k=7)→x∈IU) {s:List UInt8} (hs:s∉IU):dn L s (gs a d)=false:=by
 rw[h.is,Bool.and_eq_false_iff]
 by_cases hk:k=6∨k=7
 · right
   rw[beq_eq_false_iff_ne]
   intro e;subst e;exact hs (hx hk)
 · left
   simp only[Bool.or_eq_false_iff,beq_eq_false_iff_ne]
   exact⟨fun h=>hk (.inl h),fun h=>hk (.inr h)⟩
theorem oU {x s:List UInt8} (h:df L a (wd x::T)) (hs:x≠s):dn L s (gs a d)=false:=by
 have h':df L a ((6,0,x)::T):=h
 rw[h'.is];simp[hs]
theorem pW {t:Tr} (w:jL t) (h:df L a (dN t++T)) {s:List UInt8} (hs:s∉IU):dn L s (gs a d)=false:=by
 obtain⟨k,n,x,S',e,hx⟩:=Y4 w
 rw[e] at h
 have h':df L a ((k,n,x)::(S'++T)):=h
 exact adq h' hx hs
theorem vY {t:Tr} (w:jL t) (h:df L a (dN t++T)) (hd:(dp t:Int)+d≤40) (hs:Stp 1 T):∃ t':Tr,t'.bare=t.bare∧Ev (fun n=>eQ L n 1 (gs a d)) (t',gs (a+(dN t).length) d):=
 (Zn w L a d T h hd).2.1 1 (by decide) (by decide) jZ hs
end
def abZ (T:List T3):Prop:=∃ k n x T',T=(k,n,x)::T'∧((k=6∨k=7)→x≠ou)
def Zs (t:Tr):Prop:=∀ (L:List Tok) (a:Nat) (d:Int) (T:List T3),df L a (sto t++T)→(D8 t:Int)+d≤40→abZ T→(∃ t':Tr,t'.bare=t.bare∧Ev (fun n=>jd L n (gs a d)) (t',gs (a+(sto t).length) d))∧dn L [125] (gs a d)=false
def Zb (t:Tr):Prop:=∀ (L:List Tok) (a:Nat) (d:Int) (T:List T3),df L a (qH t++T)→(VX t:Int)+d≤40→∃ t':Tr,t'.bare=t.bare∧Ev (fun n=>fQ L n (gs a d)) (t',gs (a+(qH t).length) d)
def Zss (ts:List Tr):Prop:=∀ (L:List Tok) (a:Nat) (d:Int) (T:List T3),df L a (lZ ts++(sT [125]::T))→(uT ts:Int)+d≤40→∃ ts':List Tr,bP ts'=bP ts∧∀ acc,Ev (fun n=>iy L n acc (gs a d)) (acc++ts',gs (a+(lZ ts).length) d)
theorem Rk {a:Tr} (w:jL a) (S:List T3):abZ (dN a++S):=by
 obtain⟨k,n,x,S',e,h⟩:=Y4 w
 rw[e]
 exact⟨k,n,x,_,rfl,fun hk e=>by
  have:=h hk
  rw[e] at this
  revert this;decide⟩
theorem Ul {ts:List Tr} (w:oG ts) (T:List T3):abZ (lZ ts++(sT [125]::T)):=by
 cases w with
 | nil=>exact⟨7,0,[125],T,rfl,fun _=>by decide⟩
 | cons t ts h _=>
   have e2:lZ (t::ts)++(sT [125]::T)=sto t++(lZ ts++(sT [125]::T)):=by simp[lZ]
   rw[e2]
   cases h with
   | var l c x hx a b ha hb=>rw[Ai];exact⟨6,0,l9,_,rfl,fun _=>by decide⟩
   | set l c a b ha hk hb=>rw[Ag,List.append_assoc];exact Rk ha _
   | if1 l c a b ha hb=>rw[sV];exact⟨6,0,uO,_,rfl,fun _=>by decide⟩
   | if2 l c a b e ha hb he=>rw[sV];exact⟨6,0,uO,_,rfl,fun _=>by decide⟩
   | while_ l c a b ha hb=>rw[ut];exact⟨6,0,fU,_,rfl,fun _=>by decide⟩
   | ret0 l c=>rw[wW];exact⟨6,0,dE,_,rfl,fun _=>by decide⟩
   | ret1 l c a ha=>rw[wY];exact⟨6,0,dE,_,rfl,fun _=>by decide⟩
   | print l c a ha=>rw[uq];exact⟨6,0,gm,_,rfl,fun _=>by decide⟩
   | do_ l c a ha hk=>rw[IG,List.append_assoc];exact Rk ha _
theorem Xa {t u:Tr} (h:t.bare=u.bare):t.k=u.k:=by
 have:=congrArg Tr.k h
 cases t;cases u;exact this
set_option maxHeartbeats 1000000 in
theorem ac4 {ts:List Tr} (w:oG ts):Zss ts:=by
 refine oG.rec (motive_1:=fun t _=>Zs t) (motive_2:=fun t _=>Zb t) (motive_3:=fun ts _=>Zss ts) ?_ ?_ ?_ ?_ ?_ ?_ ?_ ?_ ?_ ?_ ?_ ?_ w
 · intro l c x hx k b hk hb L a d T h hd _
   rw[Qv] at hd
   have e2:sto (.nd 7 l c 0 x [k,b])++T=wd l9::(1,0,x)::sT [58]::(nO k++(sT [61]::(dN b++(sT [59]::T)))):=by rw[Ai];simp
   rw[e2] at h
   have h1:=(h.hd (d:=d)).2.2.2
   obtain⟨_,_,g3,h2⟩:=h1.hd (d:=d)
   have h3:=(h2.hd (d:=d)).2.2.2
   obtain⟨k',hbk,hEk⟩:=vZ hk h3 (d:=d) (by omega)
   have h4:=h3.app
   have h5:=(h4.hd (d:=d)).2.2.2
   obtain⟨b',hbb,hEb⟩:=vY hb h5 (d:=d) (by omega) (gY (by decide))
   have h6:=h5.app
   refine⟨⟨nd 7 (tk L (gs a d)) 0 (tk L (gs (a+1) d)).x [k',b'],by rw[eG,g3];simp[bP,hbk,hbb,Tr.bare],?_⟩,by rw[h.is];decide⟩
   refine Ev.succ (g:=fun n=>(fK L n (gs (a+1+1+1) d)).bind fun r=>(eQ L n 1 (bM L [61] r.2)).map fun y=>(nd 7 (tk L (gs a d)) 0 (tk L (gs (a+1) d)).x [r.1,y.1],bM L [59] y.2)) ?_ fun n=>?_
   · refine hEk.bind ?_
     simp only[h4.must]
     have:=hEb.map (g:=fun y=>(nd 7 (tk L (gs a d)) 0 (tk L (gs (a+1) d)).x [k',y.1],bM L [59] y.2))
     simp only[h6.must] at this
     rw[show a+(sto (.nd 7 l c 0 x [k,b])).length=a+1+1+1+(nO k).length+1+(dN b).length+1 by rw[Ai];simp;omega]
     exact this
   · simp only[jd,h.word,if_true,h.pass (show (6:Int)≠8 by decide),h1.wd (show (1:Int)≠8 by decide),h2.must]
 · intro l c x b hx hk hb L a d T h hd _
   rw[Qu] at hd
   have e2:sto (.nd 8 l c 0 [] [x,b])++T=dN x++(sT [61]::(dN b++(sT [59]::T))):=by rw[Ag];simp
   rw[e2] at h
   obtain⟨x',hbx,hEx⟩:=vY hx h (d:=d) (by omega) (gY (by decide))
   have h1:=h.app
   have h2:=(h1.hd (d:=d)).2.2.2
   obtain⟨b',hbb,hEb⟩:=vY hb h2 (d:=d) (by omega) (gY (by decide))
   have h3:=h2.app
   have hkk:=Xa hbx
   refine⟨⟨nd 8 (tk L (gs a d)) 0 [] [x',b'],by rw[eG];simp[bP,hbx,hbb,Tr.bare],?_⟩,pW hx h (by decide)⟩
   refine Ev.succ (g:=fun n=>jG L n (tk L (gs a d)) (gs a d)) ?_ fun n=>?_
   · unfold jG
     refine hEx.bind ?_
     have hc:(x'.k==26||x'.k==28||x'.k==29)=true:=by
      rw[hkk];rcases hk with h | h | h<;>rw[h]<;>decide
     simp only[dV,h1.yes,hc,Bool.and_self,if_true,Bool.false_eq_true,if_false,h1.pass (show (7:Int)≠8 by decide)]
     have:=hEb.map (g:=fun y=>(nd 8 (tk L (gs a d)) 0 [] [x',y.1],bM L [59] y.2))
     simp only[h3.must] at this
     rw[show a+(sto (.nd 8 l c 0 [] [x,b])).length=a+(dN x).length+1+(dN b).length+1 by rw[Ag];simp;omega]
     exact this
   · simp only[jd,pW hx h (show l9∉IU by decide),pW hx h (show uO∉IU by decide),pW hx h (show fU∉IU by decide),pW hx h (show dE∉IU by decide),pW hx h (show gm∉IU by decide),Bool.false_eq_true,if_false]
 · intro l c x b hx _ ib L a d T h hd hT
   rw[G9] at hd
   have hdb:GZ [b]=VX b:=by simp[GZ]
   rw[hdb] at hd
   have e2:sto (.nd 9 l c 0 [] [x,b])++T=wd uO::(dN x++(qH b++T)):=by rw[sV];simp[eto]
   rw[e2] at h
   have h1:=(h.hd (d:=d)).2.2.2
   obtain⟨x',hbx,hEx⟩:=vY hx h1 (d:=d) (by omega) (by cases b;rw[pz];exact gY (by decide))
   have h2:=h1.app
   obtain⟨b',hbb,hEb⟩:=ib L _ d T h2 (by omega)
   have h3:=h2.app
   have hel:dn L ou (gs (a+1+(dN x).length+(qH b).length) d)=false:=by
    obtain⟨k,n,y,T',rfl,hy⟩:=hT
    rw[h3.is,Bool.and_eq_false_iff]
    by_cases hk:k=6∨k=7
    · right;rw[beq_eq_false_iff_ne];exact hy hk
    · left
      simp only[Bool.or_eq_false_iff,beq_eq_false_iff_ne]
      exact⟨fun h=>hk (.inl h),fun h=>hk (.inr h)⟩
   refine⟨⟨nd 9 (tk L (gs a d)) 0 [] [x',b'],by rw[eG];simp[bP,hbx,hbb,Tr.bare],?_⟩,by rw[h.is];decide⟩
   refine Ev.succ (g:=fun n=>(eQ L n 1 (gs (a+1) d)).bind fun r=>(fQ L n r.2).bind fun b=>if dn L ou b.2 then (fQ L n (bn L b.2)).map fun e=>(nd 9 (tk L (gs a d)) 0 [] [r.1,b.1,e.1],e.2) else some (nd 9 (tk L (gs a d)) 0 [] [r.1,b.1],b.2)) ?_ fun n=>?_
   · refine hEx.bind (hEb.bind ?_)
     simp only[hel,Bool.false_eq_true,if_false]
     rw[show a+(sto (.nd 9 l c 0 [] [x,b])).length=a+1+(dN x).length+(qH b).length by rw[sV];simp[eto];omega]
     exact .const _
   · simp only[jd,h.word,h.pass (show (6:Int)≠8 by decide),oU h (show uO≠l9 by decide),Bool.false_eq_true,if_false,if_true]
 · intro l c x b e hx _ _ ib ie L a d T h hd _
   rw[G9] at hd
   have hdb:GZ [b,e]=max (VX b) (VX e):=by simp[GZ]
   rw[hdb] at hd
   have e2:sto (.nd 9 l c 0 [] [x,b,e])++T=wd uO::(dN x++(qH b++(wd ou::(qH e++T)))):=by rw[sV];simp[eto]
   rw[e2] at h
   have h1:=(h.hd (d:=d)).2.2.2
   obtain⟨x',hbx,hEx⟩:=vY hx h1 (d:=d) (by omega) (by cases b;rw[pz];exact gY (by decide))
   have h2:=h1.app
   obtain⟨b',hbb,hEb⟩:=ib L _ d _ h2 (by omega)
   have h3:=h2.app
   have h4:=(h3.hd (d:=d)).2.2.2
   obtain⟨e',hbe,hEe⟩:=ie L _ d T h4 (by omega)
   refine⟨⟨nd 9 (tk L (gs a d)) 0 [] [x',b',e'],by rw[eG];simp[bP,hbx,hbb,hbe,Tr.bare],?_⟩,by rw[h.is];decide⟩
   refine Ev.succ (g:=fun n=>(eQ L n 1 (gs (a+1) d)).bind fun r=>(fQ L n r.2).bind fun b=>if dn L ou b.2 then (fQ L n (bn L b.2)).map fun e=>(nd 9 (tk L (gs a d)) 0 [] [r.1,b.1,e.1],e.2) else some (nd 9 (tk L (gs a d)) 0 [] [r.1,b.1],b.2)) ?_ fun n=>?_
   · refine hEx.bind (hEb.bind ?_)
     simp only[h3.word,if_true,h3.pass (show (6:Int)≠8 by decide)]
     have:=hEe.map (g:=fun e=>(nd 9 (tk L (gs a d)) 0 [] [x',b',e.1],e.2))
     rw[show a+(sto (.nd 9 l c 0 [] [x,b,e])).length=a+1+(dN x).length+(qH b).length+1+(qH e).length by rw[sV];simp[eto];omega]
     exact this
   · simp only[jd,h.word,h.pass (show (6:Int)≠8 by decide),oU h (show uO≠l9 by decide),Bool.false_eq_true,if_false,if_true]
 · intro l c x b hx _ ib L a d T h hd _
   rw[Ez] at hd
   have e2:sto (.nd 10 l c 0 [] [x,b])++T=wd fU::(dN x++(qH b++T)):=by rw[ut];simp
   rw[e2] at h
   have h1:=(h.hd (d:=d)).2.2.2
   obtain⟨x',hbx,hEx⟩:=vY hx h1 (d:=d) (by omega) (by cases b;rw[pz];exact gY (by decide))
   have h2:=h1.app
   obtain⟨b',hbb,hEb⟩:=ib L _ d T h2 (by omega)
   refine⟨⟨nd 10 (tk L (gs a d)) 0 [] [x',b'],by rw[eG];simp[bP,hbx,hbb,Tr.bare],?_⟩,by rw[h.is];decide⟩
   refine Ev.succ (g:=fun n=>(eQ L n 1 (gs (a+1) d)).bind fun r=>(fQ L n r.2).map fun b=>(nd 10 (tk L (gs a d)) 0 [] [r.1,b.1],b.2)) ?_ fun n=>?_
   · refine hEx.bind ?_
     have:=hEb.map (g:=fun b=>(nd 10 (tk L (gs a d)) 0 [] [x',b.1],b.2))
     rw[show a+(sto (.nd 10 l c 0 [] [x,b])).length=a+1+(dN x).length+(qH b).length by rw[ut];simp;omega]
     exact this
   · simp only[jd,h.word,h.pass (show (6:Int)≠8 by decide),oU h (show fU≠l9 by decide),oU h (show fU≠uO by decide),Bool.false_eq_true,if_false,if_true]
 · intro l c L a d T h hd _
   rw[wW] at h
   have h':df L a (wd dE::sT [59]::T):=h
   have h1:=(h'.hd (d:=d)).2.2.2
   refine⟨⟨nd 11 (tk L (gs a d)) 0 [] [],rfl,.of 1 fun n hn=>?_⟩,by rw[h'.is];decide⟩
   obtain⟨m,rfl⟩:∃ m,n=m+1:=⟨n - 1,by omega⟩
   simp only[jd,h'.word,h'.pass (show (6:Int)≠8 by decide),oU h' (show dE≠l9 by decide),oU h' (show dE≠uO by decide),oU h' (show dE≠fU by decide),Bool.false_eq_true,if_false,if_true,h1.yes,h1.must]
   rw[wW];rfl
 · intro l c x hx L a d T h hd _
   rw[Jt] at hd
   have e2:sto (.nd 11 l c 0 [] [x])++T=wd dE::(dN x++(sT [59]::T)):=by rw[wY];simp
   rw[e2] at h
   have h1:=(h.hd (d:=d)).2.2.2
   obtain⟨x',hbx,hEx⟩:=vY hx h1 (d:=d) hd (gY (by decide))
   have h2:=h1.app
   refine⟨⟨nd 11 (tk L (gs a d)) 0 [] [x'],by rw[eG];simp[bP,hbx,Tr.bare],?_⟩,by rw[h.is];decide⟩
   refine Ev.succ (g:=fun n=>(eQ L n 1 (gs (a+1) d)).map fun r=>(nd 11 (tk L (gs a d)) 0 [] [r.1],bM L [59] r.2)) ?_ fun n=>?_
   · have:=hEx.map (g:=fun r=>(nd 11 (tk L (gs a d)) 0 [] [r.1],bM L [59] r.2))
     simp only[h2.must] at this
     rw[show a+(sto (.nd 11 l c 0 [] [x])).length=a+1+(dN x).length+1 by rw[wY];simp;omega]
     exact this
   · simp only[jd,h.word,h.pass (show (6:Int)≠8 by decide),oU h (show dE≠l9 by decide),oU h (show dE≠uO by decide),oU h (show dE≠fU by decide),Bool.false_eq_true,if_false,if_true,pW hx h1 (show [59]∉IU by decide)]
 · intro l c x hx L a d T h hd _
   rw[Ey] at hd
   have e2:sto (.nd 12 l c 0 [] [x])++T=wd gm::(dN x++(sT [59]::T)):=by rw[uq];simp
   rw[e2] at h
   have h1:=(h.hd (d:=d)).2.2.2
   obtain⟨x',hbx,hEx⟩:=vY hx h1 (d:=d) hd (gY (by decide))
   have h2:=h1.app
   refine⟨⟨nd 12 (tk L (gs a d)) 0 [] [x'],by rw[eG];simp[bP,hbx,Tr.bare],?_⟩,by rw[h.is];decide⟩
   refine Ev.succ (g:=fun n=>(eQ L n 1 (gs (a+1) d)).map fun r=>(nd 12 (tk L (gs a d)) 0 [] [r.1],bM L [59] r.2)) ?_ fun n=>?_
   · have:=hEx.map (g:=fun r=>(nd 12 (tk L (gs a d)) 0 [] [r.1],bM L [59] r.2))
     simp only[h2.must] at this
     rw[show a+(sto (.nd 12 l c 0 [] [x])).length=a+1+(dN x).length+1 by rw[uq];simp;omega]
     exact this
   · simp only[jd,h.word,h.pass (show (6:Int)≠8 by decide),oU h (show gm≠l9 by decide),oU h (show gm≠uO by decide),oU h (show gm≠fU by decide),oU h (show gm≠dE by decide),Bool.false_eq_true,if_false,if_true]
 · intro l c x hx hk L a d T h hd _
   rw[VY] at hd
   have e2:sto (.nd 13 l c 0 [] [x])++T=dN x++(sT [59]::T):=by rw[IG];simp
   rw[e2] at h
   obtain⟨x',hbx,hEx⟩:=vY hx h (d:=d) hd (gY (by decide))
   have h1:=h.app
   have hkk:=Xa hbx
   refine⟨⟨nd 13 (tk L (gs a d)) 0 [] [x'],by rw[eG];simp[bP,hbx,Tr.bare],?_⟩,pW hx h (by decide)⟩
   refine Ev.succ (g:=fun n=>jG L n (tk L (gs a d)) (gs a d)) ?_ fun n=>?_
   · unfold jG
     refine hEx.bind ?_
     have h61:dn L [61] (gs (a+(dN x).length) d)=false:=by rw[h1.is];decide
     have hc:(x'.k==27)=true:=by rw[hkk,hk];decide
     simp only[dV,h61,hc,Bool.false_and,Bool.false_eq_true,if_false,Bool.not_true,Bool.or_self,h1.must]
     rw[show a+(sto (.nd 13 l c 0 [] [x])).length=a+(dN x).length+1 by rw[IG];simp;omega]
     exact .const _
   · simp only[jd,pW hx h (show l9∉IU by decide),pW hx h (show uO∉IU by decide),pW hx h (show fU∉IU by decide),pW hx h (show dE∉IU by decide),pW hx h (show gm∉IU by decide),Bool.false_eq_true,if_false]
 · intro l c ks _ ih L a d T h hd
   rw[NL] at hd
   have e2:qH (.nd 6 l c 0 [] ks)++T=sT [123]::(lZ ks++(sT [125]::T)):=by rw[pz];simp
   rw[e2] at h
   have h1:=(h.hd (d:=d)).2.2.2
   obtain⟨ks',hb,hE⟩:=ih L _ (d+1) T h1 (by omega)
   have h2:=h1.app
   refine⟨nd 6 (tk L (gs a d)) 0 [] ks',by rw[eG,hb];rfl,?_⟩
   refine Ev.succ (g:=fun n=>(iy L n [] (gs (a+1) (d+1))).map fun r=>(nd 6 (tk L (gs a d)) 0 [] r.1,dD L [125] r.2)) ?_ fun n=>?_
   · have:=(hE []).map (g:=fun r=>(nd 6 (tk L (gs a d)) 0 [] r.1,dD L [125] r.2))
     simp only[h2.shut,List.nil_append] at this
     rw[show a+(qH (.nd 6 l c 0 [] ks)).length=a+1+(lZ ks).length+1 by rw[pz];simp;omega]
     exact this
   · simp only[fQ,h.opens (show d+1≤40 by omega)]
 · intro L a d T h _
   have h':df L a (sT [125]::T):=h
   refine⟨[],rfl,fun acc=>.of 1 fun n hn=>?_⟩
   obtain⟨m,rfl⟩:∃ m,n=m+1:=⟨n - 1,by omega⟩
   simp only[iy,dV,h'.yes,Bool.or_true,if_true,List.append_nil]
   rfl
 · intro t ts _ ws it its L a d T h hd
   have hds:uT (t::ts)=max (D8 t) (uT ts):=by simp[uT]
   rw[hds] at hd
   have e2:lZ (t::ts)++(sT [125]::T)=sto t++(lZ ts++(sT [125]::T)):=by simp[lZ]
   rw[e2] at h
   obtain⟨⟨t',hb,hE⟩,h125⟩:=it L a d _ h (by omega) (Ul ws T)
   obtain⟨ts',hbs,hEs⟩:=its L _ d T h.app (by omega)
   refine⟨t'::ts',by simp[bP,hb,hbs],fun acc=>?_⟩
   refine Ev.succ (g:=fun n=>(jd L n (gs a d)).bind fun r=>iy L n (acc++[r.1]) r.2) ?_ fun n=>?_
   · have:=hE.bind (g:=fun n r=>iy L n (acc++[r.1]) r.2) (hEs (acc++[t']))
     rw[show a+(lZ (t::ts)).length=a+(sto t).length+(lZ ts).length by simp[lZ];omega]
     simpa using this
   · simp only[iy,dV,h125,Bool.or_self,Bool.false_eq_true,if_false]
theorem V5 {b:Tr} (w:Nc b):Zb b:=by
 cases w with
 | blk l c ks hs=>
   intro L a d T h hd
   rw[NL] at hd
   have e2:qH (.nd 6 l c 0 [] ks)++T=sT [123]::(lZ ks++(sT [125]::T)):=by rw[pz];simp
   rw[e2] at h
   have h1:=(h.hd (d:=d)).2.2.2
   obtain⟨ks',hb,hE⟩:=ac4 hs L _ (d+1) T h1 (by omega)
   have h2:=h1.app
   refine⟨nd 6 (tk L (gs a d)) 0 [] ks',by rw[eG,hb];rfl,?_⟩
   refine Ev.succ (g:=fun n=>(iy L n [] (gs (a+1) (d+1))).map fun r=>(nd 6 (tk L (gs a d)) 0 [] r.1,dD L [125] r.2)) ?_ fun n=>?_
   · have:=(hE []).map (g:=fun r=>(nd 6 (tk L (gs a d)) 0 [] r.1,dD L [125] r.2))
     simp only[h2.shut,List.nil_append] at this
     rw[show a+(qH (.nd 6 l c 0 [] ks)).length=a+1+(lZ ks).length+1 by rw[pz];simp;omega]
     exact this
   · simp only[fQ,h.opens (show d+1≤40 by omega)]
end Go.Proofs.YtllbpdllkkcajaaGreatDoor
namespace Go.Proofs.YtllbpdllkkcajaaGreatDoor
open Go.RowKit
section
variable {L:List Tok} {T:List T3} {a:Nat} {d:Int}
theorem JC {k:Int} {t:Tr} (w:xJ k t) (h:df L a (Au t++T)) (hd:(Zt t:Int)+d≤40):∃ t':Tr,t'.bare=t.bare∧Ev (fun n=>iC L n k (gs a d)) (t',gs (a+(Au t).length) d):=by
 cases w with
 | mk l c x hx y hy=>
   have e2:Au (.nd k l c 0 x [y])=(1,0,x)::sT [58]::nO y:=by simp[Au]
   have e3:Zt (.nd k l c 0 x [y])=wJ y:=by simp[Zt]
   rw[e2] at h⊢
   rw[e3] at hd
   have h':df L a ((1,0,x)::sT [58]::(nO y++T)):=h
   obtain⟨_,_,g3,h1⟩:=h'.hd (d:=d)
   have h2:=(h1.hd (d:=d)).2.2.2
   obtain⟨y',hb,hE⟩:=vZ hy h2 (d:=d) hd
   refine⟨nd k (tk L (gs a d)) 0 (tk L (gs a d)).x [y'],by rw[eG,g3];simp[bP,hb,Tr.bare],?_⟩
   unfold iC
   rw[h'.wd (by decide),h1.must]
   have:=hE.map (g:=fun r=>(nd k (tk L (gs a d)) 0 (tk L (gs a d)).x [r.1],r.2))
   rw[show a+((1,0,x)::sT [58]::nO y).length=a+1+1+(nO y).length by simp;omega]
   exact this
theorem abT {k:Int} {t:Tr} (w:xJ k t) (h:df L a (Au t++T)) (s:List UInt8):dn L s (gs a d)=false:=by
 cases w with
 | mk l c x hx y hy=>
   have h':df L a ((1,0,x)::sT [58]::(nO y++T)):=by simpa[Au] using h
   rw[h'.is];simp
theorem EE:∀ {fs:List Tr},(∀ t∈fs,xJ 3 t)→∀ {a:Nat},df L a (rM fs++(sT [125]::T))→(nM fs:Int)+d≤40→∃ fs':List Tr,bP fs'=bP fs∧∀ acc,Ev (fun n=>gq L n acc (gs a d)) (acc++fs',gs (a+(rM fs).length) d)
 | [],_,a,h,_=>by
   have h':df L a (sT [125]::T):=h
   refine⟨[],rfl,fun acc=>.of 1 fun n hn=>?_⟩
   obtain⟨m,rfl⟩:∃ m,n=m+1:=⟨n - 1,by omega⟩
   simp only[gq,dV,h'.yes,Bool.or_true,if_true,List.append_nil]
   rfl
 | t::ts,w,a,h,hd=>by
   have hk:nM (t::ts)=max (Zt t) (nM ts):=rfl
   rw[hk] at hd
   have e2:rM (t::ts)++(sT [125]::T)=Au t++(sT [59]::(rM ts++(sT [125]::T))):=by simp[rM]
   rw[e2] at h
   have wt:=w t (by simp)
   obtain⟨t',hb,hE⟩:=JC wt h (d:=d) (by omega)
   have h1:=h.app
   have h2:=(h1.hd (d:=d)).2.2.2
   obtain⟨ts',hbs,hEs⟩:=EE (fun y hy=>w y (by simp[hy])) h2 (by omega)
   refine⟨t'::ts',by simp[bP,hb,hbs],fun acc=>?_⟩
   refine Ev.succ (g:=fun n=>(iC L n 3 (gs a d)).bind fun r=>gq L n (acc++[r.1]) (bM L [59] r.2)) ?_ fun n=>?_
   · refine hE.bind ?_
     simp only[h1.must]
     have:=hEs (acc++[t'])
     rw[show a+(rM (t::ts)).length=a+(Au t).length+1+(rM ts).length by simp[rM];omega]
     simpa using this
   · simp only[gq,dV,abT wt h,Bool.or_self,Bool.false_eq_true,if_false]
theorem EF:∀ {ps:List Tr},(∀ t∈ps,xJ 5 t)→∀ {a:Nat},(nM ps:Int)+d≤40→
 (df L a (qx ps++(sT [41]::T))→∃ ps':List Tr,bP ps'=bP ps∧∀ acc,Ev (fun n=>eH L n false acc (gs a d)) (acc++ps',gs (a+(qx ps).length) d))∧
 (df L a (vC ps++(sT [41]::T))→∃ ps':List Tr,bP ps'=bP ps∧Ev (fun n=>eH L n true [] (gs a d)) (ps',gs (a+(vC ps).length) d))
 | [],_,a,_=>by
   have stop:∀ (h:df L a (sT [41]::T)) (f:Bool) (acc:List Tr),Ev (fun n=>eH L n f acc (gs a d)) (acc,gs a d):=fun h f acc=>.of 1 fun n hn=>by
    obtain⟨m,rfl⟩:∃ m,n=m+1:=⟨n - 1,by omega⟩
    simp only[eH,dV,h.yes,Bool.or_true,if_true]
   exact⟨fun h=>⟨[],rfl,fun acc=>by simpa[qx] using stop h false acc⟩,fun h=>⟨[],rfl,by simpa[vC] using stop h true []⟩⟩
 | t::ts,w,a,hd=>by
   have hk:nM (t::ts)=max (Zt t) (nM ts):=rfl
   rw[hk] at hd
   have wt:=w t (by simp)
   have one:∀ (a:Nat),df L a (Au t++(qx ts++(sT [41]::T)))→∃ t':Tr,∃ ts':List Tr,t'.bare=t.bare∧bP ts'=bP ts∧∀ acc,Ev (fun n=>(iC L n 5 (gs a d)).bind fun r=>eH L n false (acc++[r.1]) r.2) (acc++t'::ts',gs (a+(Au t).length+(qx ts).length) d):=by
    intro a h
    obtain⟨t',hb,hE⟩:=JC wt h (d:=d) (by omega)
    obtain⟨ts',hbs,hEs⟩:=(EF (fun y hy=>w y (by simp[hy])) (a:=a+(Au t).length) (by omega)).1 h.app
    refine⟨t',ts',hb,hbs,fun acc=>?_⟩
    have:=hE.bind (g:=fun n r=>eH L n false (acc++[r.1]) r.2) (hEs (acc++[t']))
    simpa using this
   refine⟨fun h=>?_,fun h=>?_⟩
   · have e2:qx (t::ts)++(sT [41]::T)=sT [44]::(Au t++(qx ts++(sT [41]::T))):=by simp[qx]
     rw[e2] at h
     have h1:=(h.hd (d:=d)).2.2.2
     obtain⟨t',ts',hb,hbs,hE⟩:=one (a+1) h1
     refine⟨t'::ts',by simp[bP,hb,hbs],fun acc=>?_⟩
     refine Ev.succ (g:=fun n=>(iC L n 5 (gs (a+1) d)).bind fun r=>eH L n false (acc++[r.1]) r.2) ?_ fun n=>?_
     · rw[show a+(qx (t::ts)).length=a+1+(Au t).length+(qx ts).length by simp[qx];omega]
       exact hE acc
     · have h41:dn L [41] (gs a d)=false:=by rw[h.is];decide
       simp only[eH,dV,h41,Bool.or_self,Bool.false_eq_true,if_false,h.must]
   · have e2:vC (t::ts)++(sT [41]::T)=Au t++(qx ts++(sT [41]::T)):=by simp[vC]
     rw[e2] at h
     obtain⟨t',ts',hb,hbs,hE⟩:=one a h
     refine⟨t'::ts',by simp[bP,hb,hbs],?_⟩
     refine Ev.succ (g:=fun n=>(iC L n 5 (gs a d)).bind fun r=>eH L n false ([]++[r.1]) r.2) ?_ fun n=>?_
     · rw[show a+(vC (t::ts)).length=a+(Au t).length+(qx ts).length by simp[vC];omega]
       exact hE []
     · simp only[eH,dV,abT wt h,Bool.or_self,Bool.false_eq_true,if_false,if_true]
theorem xK:∀ (x y:List Tr),bP (x++y)=bP x++bP y
 | [],y=>rfl
 | t::x,y=>by simp[bP,xK x y]
theorem xM:∀ (x:List Tr),(bP x).length=x.length
 | []=>rfl
 | t::x=>by simp[bP,xM x]
theorem Jv (l c:Int) (x:List UInt8) (ps:List Tr) (r b:Tr):oO (.nd 4 l c ps.length x (ps++[r,b]))=SH ps r b:=by simp[oO]
theorem aca {l c:Int} {x:List UInt8} {fs:List Tr} (hf:∀ t∈fs,xJ 3 t) (h:df L a (uM x fs++T)) (hd:((nM fs+1:Nat):Int)+d≤40):∃ t':Tr,t'.bare=(Tr.nd 2 l c 0 x fs).bare∧Ev (fun n=>gu L n (gs a d)) (t',gs (a+(uM x fs).length) d):=by
 have e2:uM x fs++T=wd jJ::(2,0,x)::sT [123]::(rM fs++(sT [125]::T)):=by simp[uM]
 rw[e2] at h
 have h1:=(h.hd (d:=d)).2.2.2
 obtain⟨_,_,g3,h2⟩:=h1.hd (d:=d)
 have h3:=(h2.hd (d:=d)).2.2.2
 obtain⟨fs',hb,hE⟩:=EE (d:=d+1) hf h3 (by omega)
 have h4:=h3.app
 refine⟨nd 2 (tk L (gs a d)) 0 (tk L (gs (a+1) d)).x fs',by rw[eG,g3,hb];rfl,?_⟩
 unfold gu
 have hm:bM L jJ (gs a d)=gs (a+1) d:=by unfold bM;rw[h.word,if_pos rfl,h.pass (by decide)]
 simp only[hm,h1.wd (show (2:Int)≠8 by decide),h2.opens (show d+1≤40 by omega)]
 have:=(hE []).map (g:=fun r=>(nd 2 (tk L (gs a d)) 0 (tk L (gs (a+1) d)).x r.1,dD L [125] r.2))
 simp only[h4.shut,List.nil_append] at this
 rw[show a+(uM x fs).length=a+1+1+1+(rM fs).length+1 by simp[uM];omega]
 exact this
theorem adl {l c:Int} {x:List UInt8} {ps:List Tr} {r b:Tr} (hp:∀ t∈ps,xJ 5 t) (hr:r=.nd 14 0 0 0 [] []∨vK r) (hb:Nc b) (h:df L a (BD x ps r b++T)) (hd:(SH ps r b:Int)+d≤40):
 ∃ t':Tr,t'.bare=(Tr.nd 4 l c ps.length x (ps++[r,b])).bare∧Ev (fun n=>Ih L n (gs a d)) (t',gs (a+(BD x ps r b).length) d):=by
 unfold SH at hd
 have e2:BD x ps r b++T=wd sZ::(1,0,x)::sT [40]::(vC ps++(sT [41]::((if r.k=14 then [] else sT [58]::nO r)++(qH b++T)))):=by simp[BD]
 rw[e2] at h
 have h1:=(h.hd (d:=d)).2.2.2
 obtain⟨_,_,g3,h2⟩:=h1.hd (d:=d)
 have h3:=(h2.hd (d:=d)).2.2.2
 obtain⟨ps',hbp,hE⟩:=(EF (d:=d+1) hp (by omega)).2 h3
 have h4:=h3.app
 have h5:=(h4.hd (d:=d)).2.2.2
 generalize hN:a+1+1+1+(vC ps).length+1=N at h5
 have hlen:=congrArg List.length hbp
 rw[xM,xM] at hlen
 have key:∃ r':Tr,r'.bare=r.bare∧∃ M,df L M (qH b++T)∧M=N+(if r.k=14 then [] else sT [58]::nO r:List T3).length∧Ev (fun n=>if dn L [58] (gs N d) then fK L n (bn L (gs N d)) else some (Tr.nd 14 0 0 0 [] [],gs N d)) (r',gs M d):=by
  rcases hr with rfl | hr
  · have h5':df L N (qH b++T):=h5
    refine⟨.nd 14 0 0 0 [] [],rfl,N,h5',rfl,?_⟩
    have hno:dn L [58] (gs N d)=false:=by
     cases b with
     | nd k l c n x ks=>
       rw[pz] at h5'
       have h6:df L N (sT [123]::(lZ ks++[sT [125]]++T)):=by simpa using h5'
       rw[h6.is];decide
    simp only[hno,Bool.false_eq_true,if_false]
    exact .const _
  · have hk:=abV hr
    rw[if_neg (by omega)] at h5⊢
    have h5':df L N (sT [58]::(nO r++(qH b++T))):=by simpa using h5
    have h6:=(h5'.hd (d:=d)).2.2.2
    obtain⟨r',hbr,hEr⟩:=vZ hr h6 (d:=d) (by omega)
    refine⟨r',hbr,N+1+(nO r).length,h6.app,by simp;omega,?_⟩
    simp only[h5'.yes,if_true,h5'.pass (show (7:Int)≠8 by decide)]
    exact hEr
 obtain⟨r',hbr,M,h7,hM,hEr⟩:=key
 obtain⟨b',hbb,hEb⟩:=V5 hb L M d T h7 (by omega)
 refine⟨nd 4 (tk L (gs a d)) ps'.length (tk L (gs (a+1) d)).x (ps'++[r',b']),?_,?_⟩
 · rw[eG,g3,xK,hbp,hlen]
   simp[bP,hbr,hbb,Tr.bare,xK]
 · unfold Ih
   have hm:bM L sZ (gs a d)=gs (a+1) d:=by unfold bM;rw[h.word,if_pos rfl,h.pass (by decide)]
   simp only[hm,h1.wd (show (1:Int)≠8 by decide),h2.opens (show d+1≤40 by omega)]
   refine hE.bind ?_
   simp only[h4.shut,hN]
   refine hEr.bind ?_
   have:=hEb.map (g:=fun b=>(nd 4 (tk L (gs a d)) ps'.length (tk L (gs (a+1) d)).x (ps'++[r',b.1]),b.2))
   rw[show a+(BD x ps r b).length=M+(qH b).length by rw[hM,← hN];simp[BD];omega]
   exact this
theorem acb {t:Tr} (w:lg t) (h:df L a (o9 t++T)) (hd:(oO t:Int)+d≤40):
 (dn L jJ (gs a d)=true∧∃ t':Tr,t'.bare=t.bare∧Ev (fun n=>gu L n (gs a d)) (t',gs (a+(o9 t).length) d))∨(dn L jJ (gs a d)=false∧dn L sZ (gs a d)=true∧∃ t':Tr,t'.bare=t.bare∧Ev (fun n=>Ih L n (gs a d)) (t',gs (a+(o9 t).length) d)):=by
 cases w with
 | rc l c x hx fs hf=>
   have e1:o9 (.nd 2 l c 0 x fs)=uM x fs:=by simp[o9]
   have e2:oO (.nd 2 l c 0 x fs)=nM fs+1:=by simp[oO]
   rw[e1] at h⊢
   rw[e2] at hd
   have h':df L a (wd jJ::(2,0,x)::sT [123]::(rM fs++[sT [125]]++T)):=by simpa[uM] using h
   exact .inl ⟨h'.word,aca hf h hd⟩
 | fn l c x hx ps hp r b hr hb=>
   rw[(PV l c x ps r b).2] at h⊢
   rw[Jv] at hd
   have h':df L a (wd sZ::((1,0,x)::sT [40]::(vC ps++(sT [41]::((if r.k=14 then [] else sT [58]::nO r)++qH b))))++T):=by simpa[BD] using h
   exact .inr ⟨by rw[h'.is];decide,h'.word,adl hp hr hb h hd⟩
theorem QA:∀ {ks:List Tr},(∀ t∈ks,lg t)→∀ {a:Nat},df L a (ku ks++[(8,0,[])])→(lu ks:Int)+d≤40→∃ ks':List Tr,bP ks'=bP ks∧∀ acc,Ev (fun n=>fP L n acc (gs a d)) (acc++ks',gs (a+(ku ks).length) d)
 | [],_,a,h,_=>by
   have h':df L a ((8,0,[])::[]):=h
   refine⟨[],rfl,fun acc=>.of 1 fun n hn=>?_⟩
   obtain⟨m,rfl⟩:∃ m,n=m+1:=⟨n - 1,by omega⟩
   simp only[fP,dV,(h'.hd).1,Bool.false_or,List.append_nil]
   rfl
 | t::ts,w,a,h,hd=>by
   have hk:lu (t::ts)=max (oO t) (lu ts):=rfl
   rw[hk] at hd
   have e2:ku (t::ts)++[(8,0,[])]=o9 t++(ku ts++[(8,0,[])]):=by simp[ku]
   rw[e2] at h
   have wt:=w t (by simp)
   have hlen:a+(ku (t::ts)).length=a+(o9 t).length+(ku ts).length:=by simp[ku];omega
   obtain⟨ts',hbs,hEs⟩:=QA (fun y hy=>w y (by simp[hy])) h.app (by omega)
   have k8:∀ {s:List UInt8},dn L s (gs a d)=true→((tk L (gs a d)).k==8)=false:=fun hs=>by
    rw[beq_eq_false_iff_ne];exact (iI hs).2
   rcases acb wt h (d:=d) (by omega) with ⟨hr,t',hb,hE⟩ | ⟨hr,hf,t',hb,hE⟩
   · refine⟨t'::ts',by simp[bP,hb,hbs],fun acc=>?_⟩
     refine Ev.succ (g:=fun n=>(gu L n (gs a d)).bind fun r=>fP L n (acc++[r.1]) r.2) ?_ fun n=>?_
     · have:=hE.bind (g:=fun n r=>fP L n (acc++[r.1]) r.2) (hEs (acc++[t']))
       rw[hlen]
       simpa using this
     · simp only[fP,dV,k8 hr,Bool.or_self,Bool.false_eq_true,if_false,hr,if_true]
   · refine⟨t'::ts',by simp[bP,hb,hbs],fun acc=>?_⟩
     refine Ev.succ (g:=fun n=>(Ih L n (gs a d)).bind fun r=>fP L n (acc++[r.1]) r.2) ?_ fun n=>?_
     · have:=hE.bind (g:=fun n r=>fP L n (acc++[r.1]) r.2) (hEs (acc++[t']))
       rw[hlen]
       simpa using this
     · simp only[fP,dV,k8 hf,Bool.or_self,Bool.false_eq_true,if_false,hr,hf,if_true]
end
end Go.Proofs.YtllbpdllkkcajaaGreatDoor
namespace Go.Proofs.YtllbpdllkkcajaaGreatDoor
open Go.RowKit
section
variable {L:List Tok}
theorem DL {n m:Nat} {k:Int} {p:PS} {r:Tr×PS} (hm:n≤m) (h:iC L n k p=some r):iC L m k p=some r:=by
 unfold iC at h⊢
 simp only[Option.map_eq_some_iff] at h⊢
 obtain⟨y,h1,h2⟩:=h
 exact⟨y,qf hm h1,h2⟩
theorem O0 {n m:Nat} {t:Tok} {p:PS} {r:Tr×PS} (hm:n≤m) (h:jG L n t p=some r):jG L m t p=some r:=by
 unfold jG at h⊢
 simp only[Option.bind_eq_some_iff] at h⊢
 obtain⟨y,h1,h2⟩:=h
 refine⟨y,(Lj hm).1 _ _ _ h1,?_⟩
 split at h2
 · rename_i c;rw[if_pos c];exact h2
 rename_i c;rw[if_neg c];clear c
 split at h2
 · rename_i c
   rw[if_pos c]
   simp only[Option.map_eq_some_iff] at h2⊢
   obtain⟨z,h3,h4⟩:=h2
   exact⟨z,(Lj hm).1 _ _ _ h3,h4⟩
 rename_i c;rw[if_neg c];clear c
 exact h2
def ac8 (L:List Tok) (n m:Nat):Prop:=
 (∀ p r,jd L n p=some r→jd L m p=some r)∧(∀ p r,fQ L n p=some r→fQ L m p=some r)∧(∀ acc p r,iy L n acc p=some r→iy L m acc p=some r)
theorem abD:∀ {n m:Nat},n≤m→ac8 L n m
 | 0,_,_=>⟨fun _ _ h=>(by cases h),fun _ _ h=>(by cases h),fun _ _ _ h=>(by cases h)⟩
 | n+1,0,h=>by omega
 | n+1,m+1,hm=>by
   obtain⟨i1,i2,i3⟩:=abD (n:=n) (m:=m) (by omega)
   have hE:=(Lj (L:=L) (n:=n) (m:=m) (by omega)).1
   refine⟨fun p r h=>?_,fun p r h=>?_,fun acc p r h=>?_⟩
   · rw[jd] at h⊢
     simp only at h⊢
     by_cases c:dn L l9 p=true
     · rw[if_pos c] at h⊢
       simp only[Option.bind_eq_some_iff,Option.map_eq_some_iff] at h⊢
       obtain⟨y,h1,z,h2,h3⟩:=h
       exact⟨y,qf (by omega) h1,z,hE _ _ _ h2,h3⟩
     rw[if_neg c] at h ⊢;clear c
     by_cases c:dn L uO p=true
     · rw[if_pos c] at h⊢
       simp only[Option.bind_eq_some_iff] at h⊢
       obtain⟨y,h1,z,h2,h3⟩:=h
       refine⟨y,hE _ _ _ h1,z,i2 _ _ h2,?_⟩
       split at h3
       · rename_i c
         rw[if_pos c]
         simp only[Option.map_eq_some_iff] at h3⊢
         obtain⟨u,h4,h5⟩:=h3
         exact⟨u,i2 _ _ h4,h5⟩
       · rename_i c;rw[if_neg c];exact h3
     rw[if_neg c] at h ⊢;clear c
     by_cases c:dn L fU p=true
     · rw[if_pos c] at h⊢
       simp only[Option.bind_eq_some_iff,Option.map_eq_some_iff] at h⊢
       obtain⟨y,h1,z,h2,h3⟩:=h
       exact⟨y,hE _ _ _ h1,z,i2 _ _ h2,h3⟩
     rw[if_neg c] at h ⊢;clear c
     by_cases c:dn L dE p=true
     · rw[if_pos c] at h⊢
       split at h
       · rename_i c2;rw[if_pos c2];exact h
       · rename_i c2
         rw[if_neg c2]
         simp only[Option.map_eq_some_iff] at h⊢
         obtain⟨y,h1,h2⟩:=h
         exact⟨y,hE _ _ _ h1,h2⟩
     rw[if_neg c] at h ⊢;clear c
     by_cases c:dn L gm p=true
     · rw[if_pos c] at h⊢
       simp only[Option.map_eq_some_iff] at h⊢
       obtain⟨y,h1,h2⟩:=h
       exact⟨y,hE _ _ _ h1,h2⟩
     rw[if_neg c] at h⊢
     exact O0 (by omega) h
   · rw[fQ] at h⊢
     simp only[Option.map_eq_some_iff] at h⊢
     obtain⟨y,h1,h2⟩:=h
     exact⟨y,i3 _ _ _ h1,h2⟩
   · rw[iy] at h⊢
     split at h
     · rename_i c;rw[if_pos c];exact h
     · rename_i c
       rw[if_neg c]
       simp only[Option.bind_eq_some_iff] at h⊢
       obtain⟨y,h1,h2⟩:=h
       exact⟨y,i1 _ _ h1,i3 _ _ _ h2⟩
theorem yR:∀ {n m:Nat} {acc:List Tr} {p:PS} {r:List Tr×PS},n≤m→gq L n acc p=some r→gq L m acc p=some r
 | 0,_,_,_,_,_,h=>by cases h
 | n+1,0,_,_,_,hm,_=>by omega
 | n+1,m+1,acc,p,r,hm,h=>by
   rw[gq] at h⊢
   split at h
   · rename_i c;rw[if_pos c];exact h
   · rename_i c
     rw[if_neg c]
     simp only[Option.bind_eq_some_iff] at h⊢
     obtain⟨y,h1,h2⟩:=h
     exact⟨y,DL (by omega) h1,yR (by omega) h2⟩
theorem y8:∀ {n m:Nat} {f:Bool} {acc:List Tr} {p:PS} {r:List Tr×PS},n≤m→eH L n f acc p=some r→eH L m f acc p=some r
 | 0,_,_,_,_,_,_,h=>by cases h
 | n+1,0,_,_,_,_,hm,_=>by omega
 | n+1,m+1,f,acc,p,r,hm,h=>by
   rw[eH] at h⊢
   split at h
   · rename_i c;rw[if_pos c];exact h
   · rename_i c
     rw[if_neg c]
     simp only[Option.bind_eq_some_iff] at h⊢
     obtain⟨y,h1,h2⟩:=h
     exact⟨y,DL (by omega) h1,y8 (by omega) h2⟩
theorem LQ {n m:Nat} {p:PS} {r:Tr×PS} (hm:n≤m) (h:gu L n p=some r):gu L m p=some r:=by
 unfold gu at h⊢
 simp only[Option.map_eq_some_iff] at h⊢
 obtain⟨y,h1,h2⟩:=h
 exact⟨y,yR hm h1,h2⟩
theorem ZR {n m:Nat} {p:PS} {r:Tr×PS} (hm:n≤m) (h:Ih L n p=some r):Ih L m p=some r:=by
 unfold Ih at h⊢
 simp only[Option.bind_eq_some_iff,Option.map_eq_some_iff] at h⊢
 obtain⟨y,h1,z,h2,u,h3,h4⟩:=h
 refine⟨y,y8 hm h1,z,?_,u,(abD hm).2.1 _ _ h3,h4⟩
 split at h2
 · rename_i c;rw[if_pos c];exact qf hm h2
 · rename_i c;rw[if_neg c];exact h2
theorem qP:∀ {n m:Nat} {acc:List Tr} {p:PS} {r:List Tr×PS},n≤m→fP L n acc p=some r→fP L m acc p=some r
 | 0,_,_,_,_,_,h=>by cases h
 | n+1,0,_,_,_,hm,_=>by omega
 | n+1,m+1,acc,p,r,hm,h=>by
   rw[fP] at h⊢
   split at h
   · rename_i c;rw[if_pos c];exact h
   rename_i c;rw[if_neg c];clear c
   split at h
   · rename_i c
     rw[if_pos c]
     simp only[Option.bind_eq_some_iff] at h⊢
     obtain⟨y,h1,h2⟩:=h
     exact⟨y,LQ (by omega) h1,qP (by omega) h2⟩
   rename_i c;rw[if_neg c];clear c
   split at h
   · rename_i c
     rw[if_pos c]
     simp only[Option.bind_eq_some_iff] at h⊢
     obtain⟨y,h1,h2⟩:=h
     exact⟨y,ZR (by omega) h1,qP (by omega) h2⟩
   rename_i c;rw[if_neg c]
   exact qP (by omega) h
end
end Go.Proofs.YtllbpdllkkcajaaGreatDoor
namespace Go.Proofs.YtllbpdllkkcajaaGreatDoor
open Go.RowKit
section
variable {L:List Tok} (H:LW L) (F:TF L)
include H F
theorem KF {n:Nat} {k:Int} {p:PS} {t:Tr} {q:PS} (h:iC L n k p=some (t,q)) (hq:q.bad=false) (hd:p.d≤40):xJ k t∧(Zt t:Int)+p.d≤40:=by
 unfold iC at h
 simp only[Option.map_eq_some_iff] at h
 obtain⟨⟨y,r⟩,h1,h2⟩:=h
 cases h2
 have Ak:=dQ H n _ h1
 have Am:=aN H [58] (gW L 1 p)
 have Aw:=dF H 1 p
 have hm:=ay Ak hq
 have hw:=ay Am hm
 obtain⟨w1,w2,_,_⟩:=kR (by decide) hw
 have e1:=Am.d
 have e2:=Aw.d
 obtain⟨K1,K2,_,_⟩:=tX H F n _ h1 hq (by omega)
 refine⟨.mk _ _ _ ((F p).1 w2) y K1,?_⟩
 have e:Zt (nd k (tk L p) 0 (tk L p).x [y])=wJ y:=by simp[nd,Zt]
 rw[e];omega
theorem wz {n:Nat} {p:PS} {t:Tr} {q:PS} (h:eQ L n 1 p=some (t,q)) (hq:q.bad=false) (hd:p.d≤40):jL t∧(dp t:Int)+p.d≤40:=by
 have G:=(gdE H F n).1 _ _ _ _ h hq hd (by decide) (by decide)
 refine⟨G.wf,?_⟩
 have:=G.dep
 rwa [gU jZ] at this
theorem Wu {n:Nat} {u:Tok} {p:PS} {t:Tr} {q:PS} (h:jG L n u p=some (t,q)) (hq:q.bad=false) (hd:p.d≤40):IR t∧(D8 t:Int)+p.d≤40:=by
 unfold jG at h
 simp only[Option.bind_eq_some_iff] at h
 obtain⟨⟨x,r⟩,h1,h2⟩:=h
 simp only at h2
 have A:=(lh H n).1 _ _ _ _ h1
 split at h2
 · rename_i c;cases h2;rw[c] at hq;cases hq
 split at h2
 · rename_i c0 c
   simp only[Option.map_eq_some_iff] at h2
   obtain⟨⟨y,u⟩,h3,h4⟩:=h2
   cases h4
   have Am:=aN H [59] u
   have hu:=ay Am hq
   have Ay:=(lh H n).1 _ _ _ _ h3
   have Ap:=aJ H r
   have hr:r.bad=false:=by simpa using c0
   obtain⟨g1,g2⟩:=wz H F h1 hr hd
   have e1:=A.d
   have e2:=Ap.d
   obtain⟨g3,g4⟩:=wz H F h3 hu (by omega)
   simp only[Bool.and_eq_true,Bool.or_eq_true,beq_iff_eq] at c
   refine⟨.set _ _ _ _ g1 (by rcases c.2 with (h | h) | h<;>omega) g3,?_⟩
   unfold nd
   rw[Qu];dsimp only at *;omega
 split at h2
 · cases h2
   have:=ay (aN H [59] (eF L 5 r)) hq
   exact (lG (by decide) this).elim
 · rename_i c0 c1 c
   cases h2
   have hr:r.bad=false:=by simpa using c0
   obtain⟨g1,g2⟩:=wz H F h1 hr hd
   simp only[Bool.or_eq_true,Bool.not_eq_true',not_or,beq_eq_false_iff_ne,ne_eq,Decidable.not_not] at c
   refine⟨.do_ _ _ _ g1 c.2,?_⟩
   unfold nd
   rw[VY];omega
omit H F in
theorem MP:∀ {a:List Tr} {t:Tr},oG a→IR t→oG (a++[t])
 | [],t,_,h=>.cons t [] h .nil
 | a::bs,t,h,ht=>by
   cases h with
   | cons _ _ h1 h2=>exact .cons a (bs++[t]) h1 (MP h2 ht)
omit H F in
theorem Ju:∀ (a:List Tr) (t:Tr),uT (a++[t])=max (uT a) (D8 t)
 | [],t=>by simp[uT]
 | a::bs,t=>by
   rw[List.cons_append,uT,uT,Ju bs t];omega
omit H F in
def adU (L:List Tok) (n:Nat):Prop:=
 (∀ p t q,jd L n p=some (t,q)→q.bad=false→p.d≤40→IR t∧(D8 t:Int)+p.d≤40)∧(∀ p t q,fQ L n p=some (t,q)→q.bad=false→p.d≤40→Nc t∧(VX t:Int)+p.d≤40)∧
 (∀ acc p l q,iy L n acc p=some (l,q)→q.bad=false→p.d≤40→oG acc→(uT acc:Int)+p.d≤40→oG l∧(uT l:Int)+p.d≤40)
theorem adn:∀ n,adU L n
 | 0=>⟨fun _ _ _ h=>(by cases h),fun _ _ _ h=>(by cases h),fun _ _ _ _ h=>(by cases h)⟩
 | n+1=>by
   obtain⟨i1,i2,i3⟩:=adn n
   obtain⟨b1,b2,b3⟩:=Gv H n
   have a1:=(lh H n).1
   refine⟨fun p t q h hq hd=>?_,fun p t q h hq hd=>?_,fun acc p l q h hq hd wa da=>?_⟩
   · rw[jd] at h
     simp only at h
     have Ap:=aJ H p
     have hdp:(bn L p).d=p.d:=by have:=Ap.d;omega
     by_cases c:dn L l9 p=true
     · rw[if_pos c] at h
       simp only[Option.bind_eq_some_iff,Option.map_eq_some_iff] at h
       obtain⟨⟨y,r⟩,h1,⟨z,u⟩,h2,h3⟩:=h
       cases h3
       have Am:=aN H [59] u
       have hu:=ay Am hq
       have Az:=a1 _ _ _ _ h2
       have Ae:=aN H [61] r
       have hr:=ay Ae (ay Az hu)
       have Ak:=dQ H n _ h1
       have Ac:=aN H [58] (gW L 1 (bn L p))
       have Aw:=dF H 1 (bn L p)
       have hw:=ay Ac (ay Ak hr)
       obtain⟨w1,w2,_,_⟩:=kR (by decide) hw
       have e1:=Ac.d
       have e2:=Aw.d
       have e3:=Ak.d
       have e4:=Ae.d
       obtain⟨K1,K2,_,_⟩:=tX H F n _ h1 hr (by omega)
       obtain⟨g1,g2⟩:=wz H F h2 hu (by dsimp only at *;omega)
       refine⟨.var _ _ _ ((F _).1 w2) y z K1 g1,?_⟩
       unfold nd
       rw[Qv]
       dsimp only at *;omega
     rw[if_neg c] at h;clear c
     by_cases c:dn L uO p=true
     · rw[if_pos c] at h
       simp only[Option.bind_eq_some_iff] at h
       obtain⟨⟨y,r⟩,h1,⟨z,u⟩,h2,h3⟩:=h
       have Ay:=a1 _ _ _ _ h1
       have Az:=(b2 _ _ _ h2).1
       have e1:=Ay.d
       have e2:=Az.d
       simp only at h3
       split at h3
       · rename_i c2
         simp only[Option.map_eq_some_iff] at h3
         obtain⟨⟨v,q'⟩,h4,h5⟩:=h3
         cases h5
         have Ap2:=aJ H u
         have e3:=Ap2.d
         have Av:=(b2 _ _ _ h4).1
         have hu:=ay Ap2 (ay Av hq)
         have hr:=ay Az hu
         obtain⟨g1,g2⟩:=wz H F h1 hr (by omega)
         obtain⟨g3,g4⟩:=i2 _ _ _ h2 hu (by dsimp only at *;omega)
         obtain⟨g5,g6⟩:=i2 _ _ _ h4 hq (by dsimp only at *;omega)
         refine⟨.if2 _ _ y z v g1 g3 g5,?_⟩
         unfold nd
         rw[G9]
         simp only[GZ]
         dsimp only at *;omega
       · cases h3
         have hr:=ay Az hq
         obtain⟨g1,g2⟩:=wz H F h1 hr (by omega)
         obtain⟨g3,g4⟩:=i2 _ _ _ h2 hq (by dsimp only at *;omega)
         refine⟨.if1 _ _ y z g1 g3,?_⟩
         unfold nd
         rw[G9]
         simp only[GZ]
         dsimp only at *;omega
     rw[if_neg c] at h;clear c
     by_cases c:dn L fU p=true
     · rw[if_pos c] at h
       simp only[Option.bind_eq_some_iff,Option.map_eq_some_iff] at h
       obtain⟨⟨y,r⟩,h1,⟨z,u⟩,h2,h3⟩:=h
       cases h3
       have Ay:=a1 _ _ _ _ h1
       have Az:=(b2 _ _ _ h2).1
       have e1:=Ay.d
       have hr:=ay Az hq
       obtain⟨g1,g2⟩:=wz H F h1 hr (by omega)
       obtain⟨g3,g4⟩:=i2 _ _ _ h2 hq (by dsimp only at *;omega)
       refine⟨.while_ _ _ y z g1 g3,?_⟩
       unfold nd
       rw[Ez]
       dsimp only at *;omega
     rw[if_neg c] at h;clear c
     by_cases c:dn L dE p=true
     · rw[if_pos c] at h
       split at h
       · cases h
         refine⟨.ret0 _ _,?_⟩
         have e:D8 (nd 11 (tk L p) 0 [] [])=0:=by unfold nd;rw[D8.eq_def];simp
         rw[e];omega
       · simp only[Option.map_eq_some_iff] at h
         obtain⟨⟨y,r⟩,h1,h3⟩:=h
         cases h3
         have hr:=ay (aN H [59] r) hq
         obtain⟨g1,g2⟩:=wz H F h1 hr (by omega)
         refine⟨.ret1 _ _ y g1,?_⟩
         unfold nd
         rw[Jt]
         dsimp only at *;omega
     rw[if_neg c] at h;clear c
     by_cases c:dn L gm p=true
     · rw[if_pos c] at h
       simp only[Option.map_eq_some_iff] at h
       obtain⟨⟨y,r⟩,h1,h3⟩:=h
       cases h3
       have hr:=ay (aN H [59] r) hq
       obtain⟨g1,g2⟩:=wz H F h1 hr (by omega)
       refine⟨.print _ _ y g1,?_⟩
       unfold nd
       rw[Ey]
       dsimp only at *;omega
     rw[if_neg c] at h
     exact Wu H F h hq hd
   · rw[fQ] at h
     simp only[Option.map_eq_some_iff] at h
     obtain⟨⟨y,r⟩,h1,h3⟩:=h
     cases h3
     have As:=bU H [125] r
     have hr:=ay As hq
     have Ay:=b3 _ _ _ _ h1
     have Ao:=bf H [123] p
     obtain⟨_,o2,_,_⟩:=dS (ay Ay hr)
     have e1:=Ao.d
     obtain⟨g1,g2⟩:=i3 _ _ _ _ h1 hr (by omega) .nil (by have:uT []=0:=rfl;omega)
     refine⟨.blk _ _ y g1,?_⟩
     unfold nd
     rw[NL]
     dsimp only at *;omega
   · rw[iy] at h
     split at h
     · cases h;exact⟨wa,da⟩
     · simp only[Option.bind_eq_some_iff] at h
       obtain⟨⟨y,r⟩,h1,h2⟩:=h
       have Ay:=(b1 _ _ _ h1).1
       have As:=b3 _ _ _ _ h2
       have hr:=ay As hq
       have e1:=Ay.d
       obtain⟨g1,g2⟩:=i1 _ _ _ h1 hr hd
       have hrd:r.d=p.d:=by omega
       have:=i3 _ _ _ _ h2 hq (by dsimp only at *;omega) (MP wa g1) (by rw[Ju];dsimp only at *;omega)
       rw[show (y,r).2.d=p.d from hrd] at this
       exact this
omit H F in
theorem BO:∀ (a:List Tr) (t:Tr),nM (a++[t])=max (nM a) (Zt t)
 | [],t=>by simp[nM]
 | a::bs,t=>by
   rw[List.cons_append,nM,nM,BO bs t];omega
omit H F in
theorem Gy {P:Tr→Prop} {a:List Tr} {t:Tr} (ha:∀ x∈a,P x) (ht:P t):∀ x∈a++[t],P x:=by
 intro x hx
 rcases List.mem_append.1 hx with h | h
 · exact ha x h
 · rw[List.mem_singleton] at h;subst h;exact ht
theorem Fe:∀ {n:Nat} {acc:List Tr} {p:PS} {l:List Tr} {q:PS},gq L n acc p=some (l,q)→q.bad=false→p.d≤40→(∀ t∈acc,xJ 3 t)→(nM acc:Int)+p.d≤40→(∀ t∈l,xJ 3 t)∧(nM l:Int)+p.d≤40
 | 0,_,_,_,_,h,_,_,_,_=>by cases h
 | n+1,acc,p,l,q,h,hq,hd,wa,da=>by
   rw[gq] at h
   split at h
   · cases h;exact⟨wa,da⟩
   · simp only[Option.bind_eq_some_iff] at h
     obtain⟨⟨y,r⟩,h1,h2⟩:=h
     have As:=lQ H n _ _ h2
     have Am:=aN H [59] r
     have hr:=ay Am (ay As hq)
     have Ay:=jA H h1
     have e1:=Ay.1.d
     have e2:=Am.d
     obtain⟨g1,g2⟩:=KF H F h1 hr hd
     have hrd:(bM L [59] r).d=p.d:=by omega
     have:=Fe h2 hq (by dsimp only;omega) (Gy wa g1) (by rw[BO];dsimp only at *;omega)
     rw[show (bM L [59] (y,r).2).d=p.d from hrd] at this
     exact this
theorem Ff:∀ {n:Nat} {f:Bool} {acc:List Tr} {p:PS} {l:List Tr} {q:PS},eH L n f acc p=some (l,q)→q.bad=false→p.d≤40→(∀ t∈acc,xJ 5 t)→(nM acc:Int)+p.d≤40→(∀ t∈l,xJ 5 t)∧(nM l:Int)+p.d≤40
 | 0,_,_,_,_,_,h,_,_,_,_=>by cases h
 | n+1,f,acc,p,l,q,h,hq,hd,wa,da=>by
   rw[eH] at h
   split at h
   · cases h;exact⟨wa,da⟩
   · simp only[Option.bind_eq_some_iff] at h
     obtain⟨⟨y,r⟩,h1,h2⟩:=h
     have h0:gK L p (if f=true then p else bM L [44] p) 0:=by
      split
      · exact gK.refl p
      · exact aN H _ p
     have As:=kJ H n _ _ _ h2
     have hr:=ay As hq
     have Ay:=jA H h1
     have e1:=Ay.1.d
     have e0:=h0.d
     obtain⟨g1,g2⟩:=KF H F h1 hr (by omega)
     have hrd:r.d=p.d:=by omega
     have:=Ff h2 hq (by dsimp only;omega) (Gy wa g1) (by rw[BO];dsimp only at *;omega)
     rw[show (y,r).2.d=p.d from hrd] at this
     exact this
theorem ach {n:Nat} {p:PS} {t:Tr} {q:PS} (h:gu L n p=some (t,q)) (hq:q.bad=false) (hd:p.d≤40):lg t∧(oO t:Int)+p.d≤40:=by
 unfold gu at h
 simp only[Option.map_eq_some_iff] at h
 obtain⟨⟨y,r⟩,h1,h3⟩:=h
 cases h3
 have As:=bU H [125] r
 have hr:=ay As hq
 have Af:=lQ H n _ _ h1
 have Ao:=bf H [123] (gW L 2 (bM L jJ p))
 have Aw:=dF H 2 (bM L jJ p)
 have Am:=aN H jJ p
 have ho:=ay Af hr
 obtain⟨_,o2,_,_⟩:=dS ho
 have hw:=ay Ao ho
 obtain⟨w1,w2,_,_⟩:=kR (by decide) hw
 have e1:=Ao.d
 have e2:=Aw.d
 have e3:=Am.d
 obtain⟨g1,g2⟩:=Fe H F h1 hr (by omega) (fun t ht=>by simp at ht) (by have:nM []=0:=rfl;omega)
 refine⟨.rc _ _ _ ((F _).2.1 w2) y g1,?_⟩
 have e:oO (nd 2 (tk L p) 0 (tk L (bM L jJ p)).x y)=nM y+1:=by simp[nd,oO]
 rw[e]
 dsimp only at *;omega
theorem ado {n:Nat} {p:PS} {t:Tr} {q:PS} (h:Ih L n p=some (t,q)) (hq:q.bad=false) (hd:p.d≤40):lg t∧(oO t:Int)+p.d≤40:=by
 unfold Ih at h
 simp only[Option.bind_eq_some_iff,Option.map_eq_some_iff] at h
 obtain⟨⟨y,r⟩,h1,⟨z,u⟩,h2,⟨v,q'⟩,h3,h4⟩:=h
 cases h4
 have Ab:=((Gv H n).2.1 _ _ _ h3).1
 have hu:=ay Ab hq
 have As:=bU H [41] r
 have Az:gK L (dD L [41] r) u 0:=by
  split at h2
  · exact ((aJ H _).trans (dQ H n _ h2)).of (by omega)
  · cases h2;exact gK.refl _
 have hs:=ay Az hu
 have hr:=ay As hs
 have Ap:=kJ H n _ _ _ h1
 have Ao:=bf H [40] (gW L 1 (bM L sZ p))
 have Aw:=dF H 1 (bM L sZ p)
 have Am:=aN H sZ p
 have ho:=ay Ap hr
 obtain⟨_,o2,_,_⟩:=dS ho
 have hw:=ay Ao ho
 obtain⟨w1,w2,_,_⟩:=kR (by decide) hw
 have e1:=Ao.d
 have e2:=Aw.d
 have e3:=Am.d
 have e4:=Ap.d
 have e5:=As.d
 have e6:=Az.d
 obtain⟨g1,g2⟩:=Ff H F h1 hr (by omega) (fun t ht=>by simp at ht) (by have:nM []=0:=rfl;omega)
 obtain⟨g3,g4⟩:=(adn H F n).2.1 _ _ _ h3 hq (by dsimp only at *;omega)
 have gz:(z=.nd 14 0 0 0 [] []∨vK z)∧(wJ z:Int)+p.d≤40:=by
  split at h2
  · have e7:=(aJ H (dD L [41] r)).d
    obtain⟨K1,K2,_,_⟩:=tX H F n _ h2 hu (by dsimp only at *;omega)
    exact⟨.inr K1,by dsimp only at *;omega⟩
  · cases h2
    have e:wJ (.nd 14 0 0 0 [] [])=0:=by simp[wJ]
    exact⟨.inl rfl,by rw[e];omega⟩
 refine⟨.fn _ _ _ ((F _).1 w2) y g1 z v gz.1 g3,?_⟩
 have e:oO (nd 4 (tk L p) y.length (tk L (bM L sZ p)).x (y++[z,v]))=SH y z v:=Jv ..
 dsimp only at *
 rw[e]
 unfold SH
 have:=gz.2
 omega
omit H F in
theorem Bf:∀ (a:List Tr) (t:Tr),lu (a++[t])=max (lu a) (oO t)
 | [],t=>by simp[lu]
 | a::bs,t=>by
   rw[List.cons_append,lu,lu,Bf bs t];omega
theorem KE:∀ {n:Nat} {acc:List Tr} {p:PS} {l:List Tr} {q:PS},fP L n acc p=some (l,q)→q.bad=false→p.d=0→(∀ t∈acc,lg t)→(lu acc:Int)≤40→(∀ t∈l,lg t)∧(lu l:Int)≤40∧(tk L q).k=8
 | 0,_,_,_,_,h,_,_,_,_=>by cases h
 | n+1,acc,p,l,q,h,hq,hd,wa,da=>by
   rw[fP] at h
   have more:∀ {y:Tr} {r:PS},lg y∧(oO y:Int)+p.d≤40→gK L p r 0→fP L n (acc++[y]) r=some (l,q)→(∀ t∈l,lg t)∧(lu l:Int)≤40∧(tk L q).k=8:=by
    intro y r G A h2
    have e:=A.d
    exact KE h2 hq (by omega) (Gy wa G.1) (by rw[Bf];have:=G.2;omega)
   split at h
   · rename_i c
     cases h
     refine⟨wa,da,?_⟩
     simp only[Bool.or_eq_true,beq_iff_eq] at c
     rcases c with c | c
     · rw[c] at hq;cases hq
     · exact c
   split at h
   · simp only[Option.bind_eq_some_iff] at h
     obtain⟨⟨y,r⟩,h1,h2⟩:=h
     have A:=(nI H h1).1
     have hr:=ay (jy H n _ _ h2) hq
     exact more (ach H F h1 hr (by omega)) A h2
   split at h
   · simp only[Option.bind_eq_some_iff] at h
     obtain⟨⟨y,r⟩,h1,h2⟩:=h
     have A:=(AL H h1).1
     have hr:=ay (jy H n _ _ h2) hq
     exact more (ado H F h1 hr (by omega)) A h2
   · have:=ay (jy H n _ _ h) hq
     exact (lG (by decide) this).elim
end
theorem QT {s:List UInt8} {f:Int×Int×Int} {t:Tr} (h:gy true s=some (f,t)) (hf:f.1=0) (hs:s.length≤1000000):∃ ks,t=.nd 1 1 1 0 [] ks∧(∀ t∈ks,lg t)∧(lu ks:Int)≤40:=by
 have hl0:=(lX h hf).1
 have T:=rf hl0
 have F:=abR T (Y6 hl0 hs)
 unfold gy at h
 rw[if_neg (by simpa using hl0)] at h
 simp only[Option.map_eq_some_iff] at h
 obtain⟨⟨t0,q⟩,h1,h2⟩:=h
 cases h2
 have h1:rG (bQ s).2 (iR (bQ s).2) p0=some (t0,q):=h1
 have hq:q.bad=false:=by
  unfold vX at hf
  split at hf
  · unfold PS.bad;rw[hf];rfl
  · exfalso
    have:=iP (L:=(bQ s).2) (e:=5) (by decide) q
    unfold PS.bad at this
    rw[hf] at this
    exact absurd this (by decide)
 unfold rG at h1
 simp only[Option.map_eq_some_iff] at h1
 obtain⟨⟨rl,r⟩,h3,h4⟩:=h1
 cases h4
 obtain⟨g1,g2,_⟩:=KE T.lw F h3 hq rfl (fun t ht=>by simp at ht) (by decide)
 exact⟨rl,rfl,g1,g2⟩
theorem PH {l c:Int} {ks:List Tr} (w:∀ t∈ks,lg t) (hd:(lu ks:Int)≤40):∃ t' f',gy true (eU ks)=some (f',t')∧f'.1=0∧t'.bare=(Tr.nd 1 l c 0 [] ks).bare:=by
 obtain⟨L,hL,hp⟩:=Xh (s:=eU ks) (T:=ku ks++[(8,0,[])]) (by
  have:=Q5 w (u:=[]) (T:=[(8,0,[])]) Xi
  simpa using this)
 have hT:df L 0 (ku ks++[(8,0,[])]):=hp
 obtain⟨ks',hb,hE⟩:=QA w (a:=0) (d:=0) hT (by omega)
 obtain⟨⟨f',u⟩,hpu⟩:=qN true (eU ks)
 have hpu':=hpu
 unfold gy at hpu
 have hl1:(bQ (eU ks)).1.1=0:=by rw[hL]
 rw[if_neg (by simpa using hl1),hL] at hpu
 simp only[Option.map_eq_some_iff] at hpu
 obtain⟨⟨t2,q2⟩,h3,h4⟩:=hpu
 have h3:rG L (iR L) p0=some (t2,q2):=h3
 unfold rG at h3
 simp only[Option.map_eq_some_iff] at h3
 obtain⟨⟨rl,r⟩,h5,h6⟩:=h3
 have he:=abt (fun n m r hnm hh=>qP hnm hh) (hE []) h5
 cases he
 cases h6
 cases h4
 refine⟨_,_,hpu',?_,?_⟩
 · have hk:(tk L (gs (0+(ku ks).length) 0)).k=8:=(hT.app.hd).1
   unfold vX
   rw[if_pos hk]
   rfl
 · simp[Tr.bare,hb]
end Go.Proofs.YtllbpdllkkcajaaGreatDoor
namespace Go.Proofs.YtllbpdllkkcajaaGreatDoor
open Go.RowKit
theorem PZ {t:Tr} (W:vK t):wTy t.g=true:=abU W
theorem adE {a:Tr} (h:a.k=26∨a.k=28∨a.k=29):wO [26,28,29] a.g=true:=by
 obtain⟨k,l,c,n,x,ks⟩:=a
 have h':k=26∨k=28∨k=29:=h
 rcases h' with rfl | rfl | rfl<;>rfl
theorem abI {a:Tr} {k:Int} (h:a.k=k):wO [k] a.g=true:=by
 obtain⟨k',l,c,n,x,ks⟩:=a
 have h':k'=k:=h
 subst h'
 simp[lL]
theorem Si {t:Tr} (W:Nc t):wB t.g=true:=by
 cases W;rfl
theorem adQ {t:Tr} (W:IR t):Em 7 13 t.g=true:=by
 cases W<;>rfl
theorem Zj:∀ {ts:List Tr},oG ts→(ts.map Tr.g).all (Em 7 13)=true
 | [],_=>rfl
 | _::_,.cons _ _ h hs=>by rw[List.map_cons,List.all_cons,adQ h,Zj hs];rfl
mutual
theorem aba:∀ {t:Tr},IR t→rX t=true
 | _,.var l c x h a b ha hb=>by
   rw[dL,List.all_cons,List.all_cons,xy ha,ig hb]
   simp[vw,lL,Tr.kl,fieldsB,fZ,stB,rowB,ji h,PZ ha,mZ hb]
 | _,.set l c a b ha hk hb=>by
   rw[dL,List.all_cons,List.all_cons,ig ha,ig hb]
   have h1:=adE hk
   have h2:=mZ hb
   simp only[vw,lL,Tr.kl,List.map_cons,List.map_nil]
   show ((true&&(rowB [wO [26,28,29],wE] [a.g,b.g]))&&_)=true
   simp only[rowB,h1,h2];rfl
 | _,.if1 l c a b ha hb=>by
   rw[dL,List.all_cons,List.all_cons,ig ha,xu hb]
   have h1:=mZ ha
   have h2:=Si hb
   simp only[vw,lL,Tr.kl,List.map_cons,List.map_nil]
   show ((true&&(rowB [wE,wB] [a.g,b.g]||rowB [wE,wB,wB] [a.g,b.g]))&&_)=true
   simp only[rowB,h1,h2];rfl
 | _,.if2 l c a b e ha hb he=>by
   rw[dL,List.all_cons,List.all_cons,List.all_cons,ig ha,xu hb,xu he]
   have h1:=mZ ha
   have h2:=Si hb
   have h3:=Si he
   simp only[vw,lL,Tr.kl,List.map_cons,List.map_nil]
   show ((true&&(rowB [wE,wB] [a.g,b.g,e.g]||rowB [wE,wB,wB] [a.g,b.g,e.g]))&&_)=true
   simp only[rowB,h1,h2,h3];rfl
 | _,.while_ l c a b ha hb=>by
   rw[dL,List.all_cons,List.all_cons,ig ha,xu hb]
   have h1:=mZ ha
   have h2:=Si hb
   simp only[vw,lL,Tr.kl,List.map_cons,List.map_nil]
   show ((true&&(rowB [wE,wB] [a.g,b.g]))&&_)=true
   simp only[rowB,h1,h2];rfl
 | _,.ret0 l c=>by rw[dL];rfl
 | _,.ret1 l c a ha=>by
   rw[dL,List.all_cons,ig ha]
   have h1:=mZ ha
   simp only[vw,lL,Tr.kl,List.map_cons,List.map_nil]
   show ((true&&(rowB [] [a.g]||rowB [wE] [a.g]))&&_)=true
   simp only[rowB,h1];rfl
 | _,.print l c a ha=>by
   rw[dL,List.all_cons,ig ha]
   have h1:=mZ ha
   simp only[vw,lL,Tr.kl,List.map_cons,List.map_nil]
   show ((true&&rowB [wE] [a.g])&&_)=true
   simp only[rowB,h1];rfl
 | _,.do_ l c a ha hk=>by
   rw[dL,List.all_cons,ig ha]
   have h1:=abI hk
   simp only[vw,lL,Tr.kl,List.map_cons,List.map_nil]
   show ((true&&rowB [wO [27]] [a.g])&&_)=true
   simp only[rowB,h1];rfl
theorem xu:∀ {t:Tr},Nc t→rX t=true
 | _,.blk l c ks h=>by
   rw[dL,MN h]
   have h1:=Zj h
   simp only[vw,lL,Tr.kl]
   show ((true&&(ks.map Tr.g).all (Em 7 13))&&true)=true
   rw[h1];rfl
theorem MN:∀ {ts:List Tr},oG ts→ts.all rX=true
 | _,.nil=>rfl
 | _,.cons _ _ h hs=>by rw[List.all_cons,aba h,MN hs];rfl
end
theorem abd {k:Int} (hk:k=3∨k=5) {t:Tr} (W:xJ k t):rX t=true∧wO [k] t.g=true:=by
 cases W with
 | mk l c x h a ha=>
 refine⟨?_,abI rfl⟩
 rw[dL,List.all_cons,xy ha]
 have h1:=PZ ha
 rcases hk with rfl | rfl
 · simp[vw,lL,Tr.kl,fieldsB,fZ,rowB,ji h,h1]
 · simp[vw,lL,Tr.kl,fieldsB,fZ,rowB,ji h,h1]
theorem DV {k:Int} (hk:k=3∨k=5):∀ {ts:List Tr},(∀ t∈ts,xJ k t)→ts.all rX=true∧(ts.map Tr.g).all (wO [k])=true
 | [],_=>⟨rfl,rfl⟩
 | t::ts,h=>by
   obtain⟨h1,h2⟩:=abd hk (h t (by simp))
   obtain⟨h3,h4⟩:=DV hk (fun u hu=>h u (List.mem_cons_of_mem _ hu))
   exact⟨by rw[List.all_cons,h1,h3];rfl,by rw[List.map_cons,List.all_cons,h2,h4];rfl⟩
theorem Xr {r:Tr} (h:r=.nd 14 0 0 0 [] []∨vK r):rX r=true∧(decide (r.g.k=14)||wTy r.g)=true∧(r.k=14∨vK r):=by
 rcases h with rfl | h
 · exact⟨by rw[dL];rfl,rfl,.inl rfl⟩
 · exact⟨xy h,by rw[PZ h,Bool.or_true],.inr h⟩
theorem yE {t:Tr} (W:lg t):rX t=true∧wO [2,4] t.g=true∧Vk t:=by
 cases W with
 | rc l c x h fs hf=>
   obtain⟨h1,h2⟩:=DV (.inl rfl) hf
   refine⟨?_,by rfl,.rc _ _ _ _ _ hf⟩
   rw[dL,h1]
   simp only[vw,lL,Tr.kl]
   show (((dw Oy x&&true)&&(fs.map Tr.g).all (wO [3]))&&true)=true
   rw[uF h,h2];rfl
 | fn l c x h ps hp r b hr hb=>
   obtain⟨h1,h2⟩:=DV (.inr rfl) hp
   obtain⟨h3,h4,h5⟩:=Xr hr
   refine⟨?_,by rfl,.fn _ _ _ _ _ _ hp h5 hb⟩
   rw[dL,List.all_append,h1,List.all_cons,List.all_cons,h3,xu hb]
   simp only[vw,lL,Tr.kl]
   show (((dw y7 x&&leB 0 ps.length)&&fnB ps.length ((ps++[r,b]).map Tr.g))&&_)=true
   have hl:leB 0 (ps.length:Int)=true:=by simp[leB]
   have hbk:b.g.k=6:=by cases hb;rfl
   have hf:fnB ps.length ((ps++[r,b]).map Tr.g)=true:=by
    unfold fnB
    have e1:((ps++[r,b]).map Tr.g).length=ps.length+2:=by simp
    have e2:((ps++[r,b]).map Tr.g).getD (ps.length+2 - 1) ng0=b.g:=by
     simp[List.getD_eq_getElem?_getD]
    have e3:((ps++[r,b]).map Tr.g).getD (ps.length+2 - 2) ng0=r.g:=by
     simp[List.getD_eq_getElem?_getD]
    have e4:((ps++[r,b]).map Tr.g).take (ps.length+2 - 2)=ps.map Tr.g:=by
     rw[List.map_append,Nat.add_sub_cancel,← List.length_map (f:=Tr.g),List.take_left]
    rw[e1,e2,e3,e4,h2,h4,hbk]
    simp
   rw[ji h,hl,hf];rfl
theorem DU:∀ {ts:List Tr},(∀ t∈ts,lg t)→ts.all rX=true∧(ts.map Tr.g).all (wO [2,4])=true
 | [],_=>⟨rfl,rfl⟩
 | t::ts,h=>by
   obtain⟨h1,h2,_⟩:=yE (h t (by simp))
   obtain⟨h3,h4⟩:=DU (fun u hu=>h u (List.mem_cons_of_mem _ hu))
   exact⟨by rw[List.all_cons,h1,h3];rfl,by rw[List.map_cons,List.all_cons,h2,h4];rfl⟩
theorem Lh {l c:Int} {ks:List Tr} (h:∀ t∈ks,lg t):zD (.nd 1 l c 0 [] ks)=true:=by
 obtain⟨h1,h2⟩:=DU h
 rw[Q9,h1,h2]
 rfl
mutual
theorem MG:∀ (t:Tr) (i:Nat),stx i t.bare=stx i t∧tN i t.bare=tN i t
 | .nd k l c n x ks,i=>by
   have ih:=Gi ks
   refine⟨?_,?_⟩
   · rw[Tr.bare]
     match ks,ih with
     | [],_=>rw[bP,stx.eq_def,stx.eq_def]
     | [a],_=>rw[bP,bP,stx.eq_def,stx.eq_def];simp only[uu]
     | a::b::cs,ih=>
       have hb:=(ih b (by simp) i).2
       rw[bP,bP,stx.eq_def,stx.eq_def]
       have he:etx i (bP cs)=etx i cs:=by
        match cs,ih with
        | [],_=>rfl
        | e::_,ih=>rw[bP,etx,etx,(ih e (by simp) i).2]
       simp only[uu,qg,hb,he]
   · rw[Tr.bare,tN,tN]
     have hs:∀ ks':List Tr,(∀ t∈ks',t∈ks)→pM (i+1) (bP ks')=pM (i+1) ks':=by
      intro ks'
      induction ks' with
      | nil=>intro _;rfl
      | cons t ts iht=>
        intro h
        rw[bP,uo,uo,(ih t (h t (by simp)) (i+1)).1,iht fun u hu=>h u (List.mem_cons_of_mem _ hu)]
     rw[hs ks fun _ h=>h]
theorem Gi:∀ (ts:List Tr),∀ t∈ts,∀ i,stx i t.bare=stx i t∧tN i t.bare=tN i t
 | [],t,h,_=>by simp at h
 | a::ts,t,h,i=>by
   rcases List.mem_cons.1 h with e | h
   · rw[e];exact MG a i
   · exact Gi ts t h i
end
theorem DJ (t:Tr):Nj t.bare=Nj t:=by
 obtain⟨k,l,c,n,x,ks⟩:=t
 cases ks with
 | nil=>rfl
 | cons a ks=>simp[Nj,Tr.bare,bP,qg]
theorem Fb:∀ ts:List Tr,pG (bP ts)=pG ts
 | []=>rfl
 | t::ts=>by rw[bP,pG,pG,DJ,Fb ts]
theorem FX:∀ ts:List Tr,qA (bP ts)=qA ts
 | []=>rfl
 | t::ts=>by rw[bP,qA,qA,DJ,FX ts]
theorem UL:∀ ts:List Tr,qy (bP ts)=qy ts
 | []=>rfl
 | t::ts=>by rw[bP,qy,qy,DJ,FX ts]
theorem xN:∀ ts:List Tr,bP ts=ts.map Tr.bare
 | []=>rfl
 | t::ts=>by rw[bP,xN ts];rfl
theorem PX (t:Tr):lM t.bare=lM t:=by
 obtain⟨k,l,c,n,x,ks⟩:=t
 rw[Tr.bare,lM,lM]
 by_cases h2:k=2
 · rw[if_pos h2,if_pos h2]
   unfold y9
   rw[Fb]
 · rw[if_neg h2,if_neg h2,xN,← List.map_drop,← List.map_take]
   generalize ks.drop n.toNat=q
   match q with
   | []=>rfl
   | [_]=>rfl
   | r::b::_=>
     simp only[List.map_cons]
     unfold Eb
     rw[← xN,UL,qg,(MG b 0).2]
     have:r.bare.k=r.k:=by cases r;rfl
     rw[this]
theorem sW:∀ ts:List Tr,eU (bP ts)=eU ts
 | []=>rfl
 | t::ts=>by rw[bP,eU,eU,PX,sW ts]
theorem kw (k l c n:Int) (x:List UInt8) (ks:List Tr):wN (.nd k l c n x ks)=23+4*x.length+wS ks:=rfl
theorem MM {t:Tr} (W:vK t):wN t≤4000023*t.n:=by
 induction W with
 | word k l c h=>rw[kw,jk,wS,bg];simp
 | big l c x h=>rw[kw,jk,wS,bg];have:=h.2.2;omega
 | list l c t h ih=>rw[kw,jk,wS,wS,aA,bg];simp;omega
mutual
theorem mQ:∀ {t:Tr},jL t→wN t≤4000023*t.n
 | _,.int l c n h=>by rw[kw,jk,wS,bg];simp
 | _,.comp l c n h=>by rw[kw,jk,wS,bg];simp
 | _,.str l c x h=>by rw[kw,jk,wS,bg];omega
 | _,.bool l c n h=>by rw[kw,jk,wS,bg];simp
 | _,.nil l c=>by rw[kw,jk,wS,bg];simp
 | _,.name l c x h=>by rw[kw,jk,wS,bg];have:=h.2.2.2;omega
 | _,.call l c x h ks hk=>by have:=Zi hk;have:=h.2.2.2;rw[kw,jk];omega
 | _,.index l c a b ha hb=>by have:=mQ ha;have:=mQ hb;rw[kw,jk,wS,wS,wS,aA,aA,bg];simp;omega
 | _,.dot l c x h a ha=>by have:=mQ ha;have:=h.2.2.2;rw[kw,jk,wS,wS,aA,bg];omega
 | _,.un l c n h a ha=>by have:=mQ ha;rw[kw,jk,wS,wS,aA,bg];simp;omega
 | _,.bin l c n h a b ha hb=>by have:=mQ ha;have:=mQ hb;rw[kw,jk,wS,wS,wS,aA,aA,bg];simp;omega
 | _,.make l c l' c' x h=>by have:=MM (.big l' c' x h);rw[kw,jk,wS,wS,aA,bg];simp;omega
 | _,.makes l c l' c' t ht b hb=>by have:=MM (.list l' c' t ht);have:=mQ hb;rw[kw,jk,wS,wS,wS,aA,aA,bg];simp;omega
theorem Zi:∀ {ts:List Tr},rJ ts→wS ts≤4000023*Tr.ns ts
 | _,.nil=>by rw[wS,bg];omega
 | _,.cons _ _ h hs=>by have:=mQ h;have:=Zi hs;rw[wS,aA];omega
end
mutual
theorem abb:∀ {t:Tr},IR t→∀ i:Nat,i+t.n≤10000→(stx i t).length+i+1≤5000000*t.n
 | _,.var l c x h a b ha hb,i,hi=>by
   have h1:=zX ha;have h2:=MM ha;have h3:=pO hb;have h4:=mQ hb;have h5:=h.2.2.2
   rw[jk,aA,aA,bg] at hi⊢
   rw[MZ]
   simp only[List.length_append,List.length_cons,List.length_nil]
   omega
 | _,.set l c a b ha hk hb,i,hi=>by
   have h1:=pO ha;have h2:=mQ ha;have h3:=pO hb;have h4:=mQ hb
   rw[jk,aA,aA,bg] at hi⊢
   rw[MX]
   simp only[List.length_append,List.length_cons,List.length_nil]
   omega
 | _,.if1 l c a b ha hb,i,hi=>by
   rw[jk,aA,aA,bg] at hi⊢
   have h1:=pO ha;have h2:=mQ ha;have h3:=xw hb i (by omega)
   rw[MV]
   simp only[List.length_append,List.length_cons,List.length_nil]
   omega
 | _,.if2 l c a b e ha hb he,i,hi=>by
   rw[jk,aA,aA,aA,bg] at hi⊢
   have h1:=pO ha;have h2:=mQ ha;have h3:=xw hb i (by omega);have h4:=xw he i (by omega)
   rw[MW]
   simp only[List.length_append,List.length_cons,List.length_nil]
   omega
 | _,.while_ l c a b ha hb,i,hi=>by
   rw[jk,aA,aA,bg] at hi⊢
   have h1:=pO ha;have h2:=mQ ha;have h3:=xw hb i (by omega)
   rw[D6]
   simp only[List.length_append,List.length_cons,List.length_nil]
   omega
 | _,.ret0 l c,i,hi=>by
   rw[jk,bg] at hi⊢
   rw[yF]
   simp only[List.length_append,List.length_cons,List.length_nil]
   omega
 | _,.ret1 l c a ha,i,hi=>by
   have h1:=pO ha;have h2:=mQ ha
   rw[jk,aA,bg] at hi⊢
   rw[yG]
   simp only[List.length_append,List.length_cons,List.length_nil]
   omega
 | _,.print l c a ha,i,hi=>by
   have h1:=pO ha;have h2:=mQ ha
   rw[jk,aA,bg] at hi⊢
   rw[D5]
   simp only[List.length_append,List.length_cons,List.length_nil]
   omega
 | _,.do_ l c a ha hk,i,hi=>by
   have h1:=pO ha;have h2:=mQ ha
   rw[jk,aA,bg] at hi⊢
   rw[Su]
   simp only[List.length_append,List.length_cons,List.length_nil]
   omega
theorem xw:∀ {t:Tr},Nc t→∀ i:Nat,i+t.n≤10000→(tN i t).length≤5000000*t.n
 | _,.blk l c ks h,i,hi=>by
   rw[jk] at hi⊢
   have h1:=MO h (i+1) (by omega)
   rw[Sl]
   simp only[List.length_append,List.length_cons,List.length_nil,kG]
   omega
theorem MO:∀ {ts:List Tr},oG ts→∀ i:Nat,i+Tr.ns ts≤10000→(pM i ts).length≤5000000*Tr.ns ts
 | _,.nil,i,_=>by rw[pM,bg];simp
 | _,.cons _ _ h hs,i,hi=>by
   rw[aA] at hi⊢
   have h1:=abb h i (by omega)
   have h2:=MO hs i (by omega)
   rw[uo]
   simp only[List.length_append,kG]
   omega
end
theorem aa5 {k:Int} {t:Tr} (W:xJ k t):(Nj t).length≤4100000*t.n:=by
 cases W with
 | mk l c x h a ha=>
 have h1:=zX ha;have h2:=MM ha;have h3:=h.2.2.2
 rw[jk,aA,bg]
 simp only[Nj,List.length_append,List.length_cons]
 omega
theorem BG {k:Int}:∀ {ts:List Tr},(∀ t∈ts,xJ k t)→(pG ts).length≤4200000*Tr.ns ts∧(qA ts).length≤4200000*Tr.ns ts∧(qy ts).length≤4200000*Tr.ns ts
 | [],_=>by simp[pG,qA,qy]
 | t::ts,h=>by
   have h1:=aa5 (h t (by simp))
   obtain⟨h2,h3,_⟩:=BG (fun u hu=>h u (List.mem_cons_of_mem _ hu))
   have h4:1≤t.n:=by rw[uA];omega
   rw[aA]
   simp only[pG,qA,qy,List.length_append,List.length_cons]
   omega
theorem U6 {t:Tr} (W:lg t) (hn:t.n≤9000):(lM t).length≤6000000*t.n:=by
 cases W with
 | rc l c x h fs hf=>
   have h1:=(BG hf).1
   have h2:=h.2.2
   rw[Sz,LU]
   rw[jk]
   simp only[List.length_append,List.length_cons,List.length_nil]
   omega
 | fn l c x h ps hp r b hr hb=>
   have h1:=(BG hp).2.2
   have h2:=h.2.2.2
   rw[jk,nU,aA,aA,bg] at hn⊢
   have h3:=xw hb 0 (by omega)
   have h4:(if r.k=14 then [] else [58,32]++kZ r:List UInt8).length≤5000000*r.n:=by
    rcases hr with rfl | hr
    · simp[Tr.k]
    · have:=zX hr
      have:=MM hr
      split
      · simp
      · simp only[List.length_append,List.length_cons,List.length_nil];omega
   rw[Sv,MS]
   simp only[List.length_append,List.length_cons,List.length_nil]
   omega
theorem DI:∀ {ts:List Tr},(∀ t∈ts,lg t)→Tr.ns ts≤9000→(eU ts).length≤7000000*Tr.ns ts
 | [],_,_=>by simp[eU]
 | t::ts,h,hn=>by
   rw[aA] at hn⊢
   have h1:=U6 (h t (by simp)) (by omega)
   have h2:=DI (fun u hu=>h u (List.mem_cons_of_mem _ hu)) (by omega)
   have h4:1≤t.n:=by rw[uA];omega
   simp only[eU,List.length_append,List.length_cons]
   omega
end Go.Proofs.YtllbpdllkkcajaaGreatDoor
namespace Go.Proofs.YtllbpdllkkcajaaGreatDoor
open Go.RowKit
def jf:List Ng→List Ng→Bool
 | [],[]=>true
 | x::a,y::b=>(x.k==y.k&&x.z==y.z&&x.n==y.n&&x.x==y.x)&&jf a b
 | _,_=>false
theorem Gg:∀ {a b:List Ng},a.length≠b.length→jf a b=false
 | [],[],h=>absurd rfl h
 | [],_::_,_=>rfl
 | _::_,[],_=>rfl
 | x::a,y::b,h=>by rw[jf,Gg (fun e=>h (by simp[e])),Bool.and_false]
theorem UY {a b c d:List Ng} (h1:jf a b=true) (h2:jf c d=true):jf (a++c) (b++d)=true:=by
 induction a generalizing b with
 | nil=>
   cases b with
   | nil=>exact h2
   | cons=>cases h1
 | cons x a ih=>
   cases b with
   | nil=>cases h1
   | cons y b=>
     rw[jf,Bool.and_eq_true] at h1
     rw[List.cons_append,List.cons_append,jf,h1.1,ih h1.2];rfl
mutual
theorem yl:∀ t:Tr,jf t.gs t.bare.gs=true∧t.bare.n=t.n
 | .nd k l c n x ks=>by
   obtain⟨h1,h2⟩:=Dp ks
   rw[Tr.bare,wH,wH,jf,h1,h2,jk,jk,h2]
   simp
theorem Dp:∀ ts:List Tr,jf (Tr.zT ts) (Tr.zT (bP ts))=true∧Tr.ns (bP ts)=Tr.ns ts
 | []=>⟨rfl,rfl⟩
 | t::ts=>by
   obtain⟨h1,h2⟩:=yl t
   obtain⟨h3,h4⟩:=Dp ts
   rw[bP,kC,kC,aA,aA,h2,h4]
   exact⟨UY h1 h3,rfl⟩
end
theorem Dn:∀ {a b:List Ng},jf a b=true→jf b a=true
 | [],[],_=>rfl
 | x::a,y::b,h=>by
   rw[jf,Bool.and_eq_true] at h⊢
   simp only[Bool.and_eq_true,beq_iff_eq] at h⊢
   exact⟨⟨⟨⟨h.1.1.1.1.symm,h.1.1.1.2.symm⟩,h.1.1.2.symm⟩,h.1.2.symm⟩,Dn h.2⟩
theorem zl:∀ {a b c:List Ng},jf a b=true→jf b c=true→jf a c=true
 | [],[],_,_,h=>h
 | x::a,y::b,[],_,h=>h
 | x::a,y::b,z::c,h,h'=>by
   rw[jf,Bool.and_eq_true] at h h'⊢
   simp only[Bool.and_eq_true,beq_iff_eq] at h h'⊢
   exact⟨⟨⟨⟨h.1.1.1.1.trans h'.1.1.1.1,h.1.1.1.2.trans h'.1.1.1.2⟩,h.1.1.2.trans h'.1.1.2⟩,h.1.2.trans h'.1.2⟩,zl h.2 h'.2⟩
theorem Iu {t u:Tr} (h:t.bare=u.bare):jf t.gs u.gs=true:=by
 have h1:=(yl t).1
 rw[h] at h1
 exact zl h1 (Dn (yl u).1)
end Go.Proofs.YtllbpdllkkcajaaGreatDoor
namespace Go.Proofs.YtllbpdllkkcajaaGreatDoor
open Go.RowKit
attribute [local go_sem] bI bH aj ah ag aS ax aQ ak says_again BE.den IE.den SE.den LE.den AE.den CE.den PE.den VE.den KV.val dO.den dO.cnt jO fD jX allL Ctx.push Ctx.heap Ctx.cut Ctx.bare Ctx.mark Inc.blank List.getD_cons_zero List.getD_cons_succ List.cons_append List.nil_append List.append_nil List.map_cons List.map_nil List.replicate_zero List.replicate_succ az dm bY dh cO dK dJ bC bz bD bW bV aH aX aI aG au aP aO dH af and_assoc
def ES:Fm:=(.ite (.not (.eqI (.cnt (.x 0)) (.cnt (.x 1))))
 (.ret (.p (.one (.b (.c false)))))
 (.loop 0 ⟨[(.c 0)],[(.c false)],[],[],[],[]⟩
 (.ite (.lt (.x 0) (.cnt (.x 0)))
 (.O (.el (.x 0) (.x 0) 6 0) 1 [.U 1] ⟨1,0,0,0,0,0⟩
 (.O (.el (.x 1) (.x 0) 6 0) 1 [.U 2] ⟨1,0,0,0,0,0⟩
 (.load (.eqI (.x 1) (.x 2)) (.el (.x 0) (.x 0) 6 3) 1 [.J 3] ⟨1,0,0,0,0,0⟩
 (.load (.eqI (.x 1) (.x 2)) (.el (.x 1) (.x 0) 6 3) 1 [.J 4] ⟨1,0,0,0,0,0⟩
 (.load (.not (.or (.not (.eqI (.x 1) (.x 2))) (.not (.eqI (.x 3) (.x 4))))) (.el (.x 0) (.x 0) 6 4) 1 [.J 5] ⟨1,0,0,0,0,0⟩
 (.load (.not (.or (.not (.eqI (.x 1) (.x 2))) (.not (.eqI (.x 3) (.x 4))))) (.el (.x 1) (.x 0) 6 4) 1 [.J 6] ⟨1,0,0,0,0,0⟩
 (.load (.not (.or (.or (.not (.eqI (.x 1) (.x 2))) (.not (.eqI (.x 3) (.x 4)))) (.not (.eqI (.x 5) (.x 6))))) (.el (.x 0) (.x 0) 6 5) 1 [(.s (.x 0))] ⟨0,0,1,0,0,0⟩
 (.load (.not (.or (.or (.not (.eqI (.x 1) (.x 2))) (.not (.eqI (.x 3) (.x 4)))) (.not (.eqI (.x 5) (.x 6))))) (.el (.x 1) (.x 0) 6 5) 1 [(.s (.x 1))] ⟨0,0,1,0,0,0⟩
 (.N (.X (.x 0) (.x 0))
 (.N (.nns (.x 0))
 (.N (.X (.x 0) (.x 1))
 (.N (.nns (.x 1))
 (.need (.eqI (.x 1) (.x 2)) (.X (.x 0) (.x 0))
 (.need (.eqI (.x 1) (.x 2)) (.nns (.x 0))
 (.need (.eqI (.x 1) (.x 2)) (.X (.x 0) (.x 1))
 (.need (.eqI (.x 1) (.x 2)) (.nns (.x 1))
 (.need (.not (.or (.not (.eqI (.x 1) (.x 2))) (.not (.eqI (.x 3) (.x 4))))) (.X (.x 0) (.x 0))
 (.need (.not (.or (.not (.eqI (.x 1) (.x 2))) (.not (.eqI (.x 3) (.x 4))))) (.nns (.x 0))
 (.need (.not (.or (.not (.eqI (.x 1) (.x 2))) (.not (.eqI (.x 3) (.x 4))))) (.X (.x 0) (.x 1))
 (.need (.not (.or (.not (.eqI (.x 1) (.x 2))) (.not (.eqI (.x 3) (.x 4))))) (.nns (.x 1))
 (.need (.not (.or (.or (.not (.eqI (.x 1) (.x 2))) (.not (.eqI (.x 3) (.x 4)))) (.not (.eqI (.x 5) (.x 6))))) (.X (.x 0) (.x 0))
 (.need (.not (.or (.or (.not (.eqI (.x 1) (.x 2))) (.not (.eqI (.x 3) (.x 4)))) (.not (.eqI (.x 5) (.x 6))))) (.nns (.x 0))
 (.need (.not (.or (.or (.not (.eqI (.x 1) (.x 2))) (.not (.eqI (.x 3) (.x 4)))) (.not (.eqI (.x 5) (.x 6))))) (.X (.x 0) (.x 1))
 (.need (.not (.or (.or (.not (.eqI (.x 1) (.x 2))) (.not (.eqI (.x 3) (.x 4)))) (.not (.eqI (.x 5) (.x 6))))) (.nns (.x 1))
 (.ite (.or (.or (.or (.not (.eqI (.x 1) (.x 2))) (.not (.eqI (.x 3) (.x 4)))) (.not (.eqI (.x 5) (.x 6)))) (.not (.eqS (.x 0) (.x 1))))
 (.ret (.p (.one (.b (.c false)))))
 (.N (.R (.add (.x 0) (.c 1)))
 (.again 0 ⟨0,0,0,0,2,0⟩ ⟨1,1,0,0,2,0⟩ ⟨[(.add (.x 0) (.c 1))],[(.x 0)],[],[],[],[]⟩)))))))))))))))))))))))))))
 (.ret (.p (.one (.b (.c true))))))))
theorem Oe:bG ⟨true,[]⟩ Tryz.prog (fun l=>([⟨[4,13],[14,15,5,16,17,18,19,20,21,22,23,24,25,26,27,28,29,30,31,32,33,34,35,36,37,38,39,40,41,42,43,44,45,46,47,48,49,50,51,52,53,54,55,56,57,58,59,60,61,62,63,64,65,66],[]⟩]:List bZ).getD l ⟨[],[],[]⟩) Tryz.f10=ES:=by kernel_rfl
theorem UA:aF Tryz.prog .zero Tryz.f10.params.toList=some ([.L 0,.L 1],⟨0,0,0,0,2,0⟩):=by kernel_rfl
set_option maxHeartbeats 4000000 in
def Jn:Ct Tryz.prog where
 f:=10
 spec:=fun args h φ=>∃ s1 s2 a b,args=[bT.val s1,bT.val s2]∧NG h s1 a∧NG h s2 b∧a.length≤1000000∧φ (.bool (jf a b)) h
 ok:=by
  rintro args h φ w ⟨s1,s2,a,b,rfl,R1,R2,hl,hφ⟩ hH
  have hn1:=NG.n R1
  have hn2:=NG.n R2
  refine bJ Tryz.func10 Oe UA [] φ (fun _ C=>∃ (j:Nat) (bb:Bool),C=⟨[j],[bb],[],[],[s1,s2],[],h,dM⟩∧j≤a.length∧jf a b=jf (a.drop j) (b.drop j)) (fun _ C=>((a.length:Int) - C.i.getD 0 0).toNat) ⟨[],[],[],[],[s1,s2],[],h,dM⟩ ⟨rfl,rfl,rfl,rfl,rfl,rfl⟩ af ?_ w hH rfl
  generalize hE:(⟨az _,_,_,_⟩:Env)=E
  have ep:E.post=φ:=by rw[← hE]
  have ei:E.inv=(fun _ C=>∃ (j:Nat) (bb:Bool),C=⟨[j],[bb],[],[],[s1,s2],[],h,dM⟩∧j≤a.length∧jf a b=jf (a.drop j) (b.drop j)):=by rw[← hE]
  have em:E.meas=(fun _ C=>((a.length:Int) - C.i.getD 0 0).toNat):=by rw[← hE]
  clear hE
  unfold ES
  by_cases hlen:a.length=b.length
  rotate_left
  · rw[Gg hlen] at hφ
    rw[ah,if_pos (by simp[go_sem];omega)]
    rw[ae,ak,ep]
    exact hφ
  rw[ah,if_neg (by simp[go_sem];omega),ae]
  refine dB ?_ ?_
  · rw[ei]
    exact⟨0,false,rfl,by omega,rfl⟩
  rw[ei,em]
  rintro i bbs ss v ll pp hh M ⟨j,bb,hC,hj,hs⟩ hM
  cases hC
  have hM':M 0=((a.length:Int) - j).toNat:=hM
  by_cases hjl:j<a.length
  rotate_left
  · have hz:¬ ((j:Int)<s1.n):=by omega
    rw[List.drop_eq_nil_of_le (by omega),List.drop_eq_nil_of_le (by omega),jf] at hs
    rw[hs] at hφ
    rw[ah,if_neg (by simpa[go_sem] using hz)]
    rw[ae,ak,ep]
    exact hφ
  have hz:((j:Int)<s1.n):=by omega
  have hjb:j<b.length:=by omega
  obtain⟨c1,o1,ha1⟩:=Rows.nn R1 (j:=j) (by omega)
  obtain⟨c2,o2,ha2⟩:=Rows.nn R2 (j:=j) (by omega)
  have rd1:∀ off,off<6→hread h (some (c1,o1+j*6+off)) 1=some ((a[j].cs.drop off).take 1):=fun off ho=>by
   have:=Rows.read (off:=off) (m:=1) R1 (j:=j) (by omega) (by omega) ha1
   rw[← List.drop_drop,nJ hjl,List.drop_append_of_le_length (by simp[Ng.cs];omega),List.take_append_of_le_length (by simp[Ng.cs];omega)] at this
   exact this
  have rd2:∀ off,off<6→hread h (some (c2,o2+j*6+off)) 1=some ((b[j].cs.drop off).take 1):=fun off ho=>by
   have:=Rows.read (off:=off) (m:=1) R2 (j:=j) (by omega) (by omega) ha2
   rw[← List.drop_drop,nJ hjb,List.drop_append_of_le_length (by simp[Ng.cs];omega),List.take_append_of_le_length (by simp[Ng.cs];omega)] at this
   exact this
  rw[List.drop_eq_getElem_cons hjl,List.drop_eq_getElem_cons hjb,jf] at hs
  generalize a[j]=x at *
  generalize b[j]=y at *
  have x0:=rd1 0 (by omega)
  have x3:=rd1 3 (by omega)
  have x4:=rd1 4 (by omega)
  have x5:=rd1 5 (by omega)
  have y0:=rd2 0 (by omega)
  have y3:=rd2 3 (by omega)
  have y4:=rd2 4 (by omega)
  have y5:=rd2 5 (by omega)
  clear rd1 rd2
  simp only[Ng.cs,List.drop_zero,List.drop_succ_cons,List.take_succ_cons,List.take_zero] at x0 x3 x4 x5 y0 y3 y4 y5
  have A1:∀ off,(s1.a.map fun x=>(x.1,x.2+((j:Nat):Int).toNat*6+off))=some (c1,o1+j*6+off):=fun off=>by rw[ha1];rfl
  have A2:∀ off,(s2.a.map fun x=>(x.1,x.2+((j:Nat):Int).toNat*6+off))=some (c2,o2+j*6+off):=fun off=>by rw[ha2];rfl
  rw[ah,if_pos (by simpa[go_sem] using hz),ae,ax,if_pos (by rfl)]
  refine (ai _ _).2 ⟨⟨[x.k],[],[],[],[],[]⟩,rfl,af,(congrArg (fun q=>hread h q 1) (A1 0)).trans x0,?_⟩
  rw[ae,ax,if_pos (by rfl)]
  refine (ai _ _).2 ⟨⟨[y.k],[],[],[],[],[]⟩,rfl,af,(congrArg (fun q=>hread h q 1) (A2 0)).trans y0,?_⟩
  have lk:∀ {q:Option (Nat×Nat)} {q':Nat×Nat} {z:Int},q=some q'→hread h (some q') 1=some [.int .i64 z]→hread h q 1=some [.int .i64 z]:=fun h1 h2=>by rw[h1];exact h2
  rw[ae]
  refine uZ rfl (fun _=>⟨x.z,(congrArg (fun q=>hread h q 1) (A1 3)).trans x3⟩) fun v3 h3=>?_
  rw[ae]
  refine uZ rfl (fun _=>⟨y.z,(congrArg (fun q=>hread h q 1) (A2 3)).trans y3⟩) fun v4 h4=>?_
  rw[ae]
  refine uZ rfl (fun _=>⟨x.n,(congrArg (fun q=>hread h q 1) (A1 4)).trans x4⟩) fun v5 h5=>?_
  rw[ae]
  refine uZ rfl (fun _=>⟨y.n,(congrArg (fun q=>hread h q 1) (A2 4)).trans y4⟩) fun v6 h6=>?_
  rw[ae]
  refine Xg rfl (fun _=>⟨x.x,(congrArg (fun q=>hread h q 1) (A1 5)).trans x5⟩) fun v7 h7=>?_
  rw[ae]
  refine Xg rfl (fun _=>⟨y.x,(congrArg (fun q=>hread h q 1) (A2 5)).trans y5⟩) fun v8 h8=>?_
  have inj:∀ {u z:Int},some [Value.int .i64 z]=some [Value.int .i64 u]→u=z:=fun h=>by simpa using h.symm
  have injs:∀ {u z:List UInt8},some [Value.string (B z)]=some [Value.string (B u)]→u=z:=fun h=>by simpa[dH] using h.symm
  have e34:x.k=y.k→v3=x.z∧v4=y.z:=fun w1=>by
   have g1:BE.den (⟨[(j:Int),x.k,y.k],[bb],[],[],[s1,s2],[],h,M⟩:Ctx) (.eqI (.x 1) (.x 2))=true:=by simpa[go_sem] using w1
   exact⟨inj (((congrArg (fun q=>hread h q 1) (A1 3)).trans x3).symm.trans (h3 g1)),inj (((congrArg (fun q=>hread h q 1) (A2 3)).trans y3).symm.trans (h4 g1))⟩
  have e56:x.k=y.k→v3=v4→v5=x.n∧v6=y.n:=fun w1 w2=>by
   have g1:BE.den (⟨[(j:Int),x.k,y.k,v3,v4],[bb],[],[],[s1,s2],[],h,M⟩:Ctx) (.not (.or (.not (.eqI (.x 1) (.x 2))) (.not (.eqI (.x 3) (.x 4)))))=true:=by simp[go_sem,w1,w2]
   exact⟨inj (((congrArg (fun q=>hread h q 1) (A1 4)).trans x4).symm.trans (h5 g1)),inj (((congrArg (fun q=>hread h q 1) (A2 4)).trans y4).symm.trans (h6 g1))⟩
  have e78:x.k=y.k→v3=v4→v5=v6→v7=x.x∧v8=y.x:=fun w1 w2 w3=>by
   have g1:BE.den (⟨[(j:Int),x.k,y.k,v3,v4,v5,v6],[bb],[],[],[s1,s2],[],h,M⟩:Ctx) (.not (.or (.or (.not (.eqI (.x 1) (.x 2))) (.not (.eqI (.x 3) (.x 4)))) (.not (.eqI (.x 5) (.x 6)))))=true:=by simp[go_sem,w1,w2,w3]
   exact⟨injs (((congrArg (fun q=>hread h q 1) (A1 5)).trans x5).symm.trans (h7 g1)),injs (((congrArg (fun q=>hread h q 1) (A2 5)).trans y5).symm.trans (h8 g1))⟩
  clear h3 h4 h5 h6 h7 h8
  iterate 16 (rw[ae];refine iW (fun _=>by simp[go_sem,ha1,ha2]<;>omega) ?_)
  by_cases heq:(((x.k=y.k∧v3=v4)∧v5=v6)∧v7=v8)
  · obtain⟨⟨⟨q1,q2⟩,q3⟩,q4⟩:=heq
    obtain⟨r1,r2⟩:=e34 q1
    obtain⟨r3,r4⟩:=e56 q1 q2
    obtain⟨r5,r6⟩:=e78 q1 q2 q3
    have e:(x.k==y.k&&x.z==y.z&&x.n==y.n&&x.x==y.x)=true:=by
     simp only[Bool.and_eq_true,beq_iff_eq]
     exact⟨⟨⟨q1,by rw[← r1,← r2];exact q2⟩,by rw[← r3,← r4];exact q3⟩,by rw[← r5,← r6];exact q4⟩
    rw[e,Bool.true_and] at hs
    rw[ae,ah,if_neg (by simp[go_sem,q1,q2,q3,q4])]
    rw[ae,aj];refine⟨by simp[go_sem]<;>omega,?_⟩
    rw[ae,says_again,ei,em]
    refine⟨⟨j+1,bb,rfl,by omega,hs⟩,?_⟩
    show (((a.length:Int) - ((j:Int)+1)).toNat)<M 0
    omega
  · have e:(x.k==y.k&&x.z==y.z&&x.n==y.n&&x.x==y.x)=false:=by
     cases hq:(x.k==y.k&&x.z==y.z&&x.n==y.n&&x.x==y.x) with
     | false=>rfl
     | true=>
       simp only[Bool.and_eq_true,beq_iff_eq] at hq
       obtain⟨⟨⟨q1,q2⟩,q3⟩,q4⟩:=hq
       obtain⟨r1,r2⟩:=e34 q1
       obtain⟨r3,r4⟩:=e56 q1 (by rw[r1,r2];exact q2)
       obtain⟨r5,r6⟩:=e78 q1 (by rw[r1,r2];exact q2) (by rw[r3,r4];exact q3)
       exact absurd ⟨⟨⟨q1,by rw[r1,r2];exact q2⟩,by rw[r3,r4];exact q3⟩,by rw[r5,r6];exact q4⟩ heq
    rw[e,Bool.false_and] at hs
    rw[hs] at hφ
    rw[ae,ah,if_pos (by
     simp only[go_sem]
     simp only[not_and] at heq
     by_cases q1:x.k=y.k
     · by_cases q2:v3=v4
       · by_cases q3:v5=v6
         · simp[q1,q2,q3,heq ⟨⟨q1,q2⟩,q3⟩]
         · simp[q3]
       · simp[q2]
     · simp[q1])]
    rw[ae,ak,ep]
    exact hφ
end Go.Proofs.YtllbpdllkkcajaaGreatDoor
namespace Go.Proofs.YtllbpdllkkcajaaGreatDoor
open Go.RowKit
attribute [local go_sem] bI bH aj ah ag aS ax aQ ak says_again BE.den IE.den SE.den LE.den AE.den CE.den PE.den VE.den KV.val dO.den dO.cnt jO fD jX allL Ctx.push Ctx.heap Ctx.cut Ctx.bare Ctx.mark Inc.blank List.getD_cons_zero List.getD_cons_succ List.cons_append List.nil_append List.append_nil List.map_cons List.map_nil List.replicate_zero List.replicate_succ az dm bY dh cO dK dJ bC bz bD bW bV aH aX aI aG au aP aO dH af and_assoc
def Bq:Fm:=(.C 8 [.S 0] (.tup [.L 0,(.agg [.J 0,.J 1,.J 2])]) ⟨3,0,0,0,1,0⟩
 (.C 9 [.L 0] (.tup [.S 1,.J 3]) ⟨1,0,1,0,0,0⟩
 (.ret (.p (.S 1)))))
theorem KH:bG ⟨true,[]⟩ Tryz.prog (fun l=>([]:List bZ).getD l ⟨[],[],[]⟩) Tryz.f20=Bq:=by kernel_rfl
theorem O8:aF Tryz.prog .zero Tryz.f20.params.toList=some ([.S 0],⟨0,0,1,0,0,0⟩):=by kernel_rfl
def Bv:Fm:=(.C 20 [.W [40,97,43,98,41,42,40,99,41]] (.p (.S 0)) ⟨0,0,1,0,0,0⟩
 (.call (.eqS (.x 0) (.c [40,97,32,43,32,98,41,32,42,32,99])) false 20 [.W [97,45,40,98,45,99,41,45,100]] (.p (.S 1)) ⟨0,0,1,0,0,0⟩
 (.call (.and (.eqS (.x 0) (.c [40,97,32,43,32,98,41,32,42,32,99])) (.eqS (.x 1) (.c [97,32,45,32,40,98,32,45,32,99,41,32,45,32,100]))) false 20 [.W [45,40,45,120,41]] (.p (.S 2)) ⟨0,0,1,0,0,0⟩
 (.ret (.p (.one (.b (.and (.and (.eqS (.x 0) (.c [40,97,32,43,32,98,41,32,42,32,99])) (.eqS (.x 1) (.c [97,32,45,32,40,98,32,45,32,99,41,32,45,32,100]))) (.eqS (.x 2) (.c [45,45,120]))))))))))
theorem KI:bG ⟨true,[]⟩ Tryz.prog (fun l=>([]:List bZ).getD l ⟨[],[],[]⟩) Tryz.f7=Bv:=by kernel_rfl
theorem O9:aF Tryz.prog .zero Tryz.f7.params.toList=some ([],⟨0,0,0,0,0,0⟩):=by kernel_rfl
theorem ab7 (c:Ct Tryz.prog) {args:List Value} {r:Value} (h:c.spec args (fun _=>none) (fun v _=>v=r)) (w:World):Calls Tryz.prog c.f args.toArray w fun e w'=>e=.returned r∧Below w.heap.size w w':=by
 refine (c.ok args (fun _=>none) _ w h (fun b o h=>by cases h)).mono ?_
 rintro e w' ⟨v,k,rfl,rfl,_,F⟩
 exact⟨rfl,F.os,F.tape,F.output,F.size,fun i hi=>F.block i hi rfl⟩
theorem NG.wM {h:Hp} {sl:bT} {t:Tr} {T:TypeId} (ho:fJ h sl (vg t.qL) T 6):NG h sl t.gs:=by
 rw[← ZU] at ho
 exact Rows.Ie ho
theorem acZ {s:List UInt8} {f:Int×Int×Int} {t:Tr} (h:gy false s=some (f,t)) (hf:f.1=0):t.n≤s.length+1:=(lX h hf).2.1
set_option maxHeartbeats 2000000 in
def En:Ct Tryz.prog where
 f:=20
 spec:=fun args h φ=>∃ s t,args=[.string (B s)]∧s.length≤2000∧(∃ f,gy false s=some (f,t)∧f.1=0)∧φ (.string (B (tx t))) h
 ok:=by
  rintro args h φ w ⟨s,t,rfl,hs,⟨f,hft,hf⟩,hφ⟩ hH
  obtain⟨W,hlen,_⟩:=PG hft hf hs
  have htn:=acZ hft hf
  have hgl:=nK t
  refine dR (bJ Tryz.func20 KH O8 [Qh,Jq] (fun v k=>∃ k',dP k' k∧φ v k') (di) (bF) ⟨[],[],[s],[],[],[],h,dM⟩ ⟨rfl,rfl,rfl,rfl,rfl,rfl⟩ af ?_ w hH rfl)
  generalize hE:(⟨az _,_,_,_⟩:Env)=E
  have s_ctPExpr:E.spec 8=(Qh).spec:=by rw[← hE];rfl
  have s_ctYExprs:E.spec 9=(Jq).spec:=by rw[← hE];rfl
  have ep:E.post=(fun v k=>∃ k',dP k' k∧φ v k'):=by rw[← hE]
  clear hE
  unfold Bq
  rw[ag,if_pos (by rfl),s_ctPExpr]
  refine⟨s,rfl,?_⟩
  unfold nV
  rw[if_neg (by omega)]
  intro f' t' hft'
  rw[hft] at hft'
  cases hft'
  rw[if_pos hf]
  intro sl k hle ho hn
  have hle':dP h k:=hle
  refine⟨fun h=>(by cases h),(ai _ _).2 ⟨⟨[0,0,0],[],[],[],[sl],[]⟩,rfl,af,rfl,?_⟩⟩
  rw[ae,ag,if_pos (by rfl),s_ctYExprs]
  refine⟨sl,t.gs,rfl,NG.wM ho,by omega,.inr ⟨t,rfl,.inr ⟨Xk W,W,by omega,?_⟩⟩⟩
  refine⟨fun h=>(by cases h),(ai _ _).2 ⟨⟨[0],[],[tx t],[],[],[]⟩,rfl,af,rfl,?_⟩⟩
  rw[ae,ak,ep]
  exact⟨h,hle',hφ⟩
def A1:List UInt8:=[40,97,43,98,41,42,40,99,41]
def A2:List UInt8:=[97,45,40,98,45,99,41,45,100]
def A3:List UInt8:=[45,40,45,120,41]
set_option maxRecDepth 100000 in
theorem ag1:(gy false A1).map (fun r=>(r.1,tx r.2))=some ((0,0,0),[40,97,32,43,32,98,41,32,42,32,99]):=by decide +kernel
set_option maxRecDepth 100000 in
theorem ag2:(gy false A2).map (fun r=>(r.1,tx r.2))=some ((0,0,0),[97,32,45,32,40,98,32,45,32,99,41,32,45,32,100]):=by decide +kernel
set_option maxRecDepth 100000 in
theorem ag3:(gy false A3).map (fun r=>(r.1,tx r.2))=some ((0,0,0),[45,45,120]):=by decide +kernel
theorem Vm {s:List UInt8} {u:List UInt8} (h:(gy false s).map (fun r=>(r.1,tx r.2))=some ((0,0,0),u)):∃ t,(∃ f,gy false s=some (f,t)∧f.1=0)∧tx t=u:=by
 obtain⟨⟨f,t⟩,h1,h2⟩:=Option.map_eq_some_iff.1 h
 obtain⟨h3,h4⟩:=Prod.mk.inj h2
 exact⟨t,⟨f,h1,by rw[show f=(0,0,0) from h3]⟩,h4⟩
set_option maxHeartbeats 2000000 in
def Eo:Ct Tryz.prog where
 f:=7
 spec:=fun args h φ=>args=[]∧φ (.bool true) h
 ok:=by
  rintro args h φ w ⟨rfl,hφ⟩ hH
  obtain⟨t1,p1,e1⟩:=Vm ag1
  obtain⟨t2,p2,e2⟩:=Vm ag2
  obtain⟨t3,p3,e3⟩:=Vm ag3
  refine bJ Tryz.func7 KI O9 [En] φ (di) (bF) ⟨[],[],[],[],[],[],h,dM⟩ ⟨rfl,rfl,rfl,rfl,rfl,rfl⟩ af ?_ w hH rfl
  generalize hE:(⟨az _,_,_,_⟩:Env)=E
  have s_ctAgain07:E.spec 20=(En).spec:=by rw[← hE];rfl
  have ep:E.post=φ:=by rw[← hE]
  clear hE
  unfold Bv
  rw[ag,if_pos (by rfl),s_ctAgain07]
  refine⟨A1,t1,rfl,by decide,p1,?_⟩
  rw[e1]
  refine⟨fun h=>(by cases h),(ai _ _).2 ⟨⟨[],[],[[40,97,32,43,32,98,41,32,42,32,99]],[],[],[]⟩,rfl,af,rfl,?_⟩⟩
  rw[ae,ag,if_pos (by rfl),s_ctAgain07]
  refine⟨A2,t2,rfl,by decide,p2,?_⟩
  rw[e2]
  refine⟨fun h=>(by cases h),(ai _ _).2 ⟨⟨[],[],[[97,32,45,32,40,98,32,45,32,99,41,32,45,32,100]],[],[],[]⟩,rfl,af,rfl,?_⟩⟩
  rw[ae,ag,if_pos (by rfl),s_ctAgain07]
  refine⟨A3,t3,rfl,by decide,p3,?_⟩
  rw[e3]
  refine⟨fun h=>(by cases h),(ai _ _).2 ⟨⟨[],[],[[45,45,120]],[],[],[]⟩,rfl,af,rfl,?_⟩⟩
  rw[ae,ak,ep]
  exact hφ
end Go.Proofs.YtllbpdllkkcajaaGreatDoor
namespace Go.Proofs.YtllbpdllkkcajaaGreatDoor
open Go.RowKit
attribute [local go_sem] bI bH aj ah ag aS ax aQ ak says_again BE.den IE.den SE.den LE.den AE.den CE.den PE.den VE.den KV.val dO.den dO.cnt jO fD jX allL Ctx.push Ctx.heap Ctx.cut Ctx.bare Ctx.mark Inc.blank List.getD_cons_zero List.getD_cons_succ List.cons_append List.nil_append List.append_nil List.map_cons List.map_nil List.replicate_zero List.replicate_succ az dm bY dh cO dK dJ bC bz bD bW bV aH aX aI aG au aP aO dH af and_assoc
def EH:Fm:=(.ite (.lt (.c 2000) (.len (.x 0)))
 (.C 7 [] (.p (.B 0)) ⟨0,1,0,0,0,0⟩
 (.ret (.p (.B 0))))
 (.C 19 [.S 0] (.tup [.L 0,(.agg [.J 0,.J 1,.J 2])]) ⟨3,0,0,0,1,0⟩
 (.ite (.not (.eqI (.x 0) (.c 0)))
 (.C 7 [] (.p (.B 0)) ⟨0,1,0,0,0,0⟩
 (.ret (.p (.B 0))))
 (.C 18 [.L 0] (.tup [.S 1,.J 3]) ⟨1,0,1,0,0,0⟩
 (.C 19 [.S 1] (.tup [.L 1,(.agg [.J 4,.J 5,.J 6])]) ⟨3,0,0,0,1,0⟩
 (.ite (.eqI (.x 4) (.c 3))
 (.call (.and (.eqI (.x 3) (.c 0)) (.lt (.c 65536) (.len (.x 1)))) false 7 [] (.p (.B 0)) ⟨0,1,0,0,0,0⟩
 (.ret (.p (.one (.b (.and (.and (.eqI (.x 3) (.c 0)) (.lt (.c 65536) (.len (.x 1)))) (.x 0)))))))
 (.C 18 [.L 1] (.tup [.S 2,.J 7]) ⟨1,0,1,0,0,0⟩
 (.call (.and (.eqI (.x 3) (.c 0)) (.eqI (.x 4) (.c 0))) false 10 [.L 0,.L 1] (.p (.B 0)) ⟨0,1,0,0,0,0⟩
 (.call (.and (.and (.and (.and (.eqI (.x 3) (.c 0)) (.eqI (.x 4) (.c 0))) (.x 0)) (.eqI (.x 7) (.c 0))) (.eqS (.x 2) (.x 1))) false 7 [] (.p (.B 1)) ⟨0,1,0,0,0,0⟩
 (.ret (.p (.one (.b (.and (.and (.and (.and (.and (.eqI (.x 3) (.c 0)) (.eqI (.x 4) (.c 0))) (.x 0)) (.eqI (.x 7) (.c 0))) (.eqS (.x 2) (.x 1))) (.x 1)))))))))))))))
theorem NT:bG ⟨true,[]⟩ Tryz.prog (fun l=>([]:List bZ).getD l ⟨[],[],[]⟩) Tryz.f6=EH:=by kernel_rfl
theorem Ur:aF Tryz.prog .zero Tryz.f6.params.toList=some ([.S 0],⟨0,0,1,0,0,0⟩):=by kernel_rfl
set_option maxHeartbeats 4000000 in
def VC:Ct Tryz.prog where
 f:=6
 spec:=fun args h φ=>∃ s,args=[.string (B s)]∧φ (.bool true) h
 ok:=by
  rintro args h φ w ⟨s,rfl,hφ⟩ hH
  refine dR (bJ Tryz.func6 NT Ur [Eo,Jj,Qp,Jn] (fun v k=>∃ k',dP k' k∧φ v k') (di) (bF) ⟨[],[],[s],[],[],[],h,dM⟩ ⟨rfl,rfl,rfl,rfl,rfl,rfl⟩ af ?_ w hH rfl)
  generalize hE:(⟨az _,_,_,_⟩:Env)=E
  have s_ctAwake07:E.spec 7=(Eo).spec:=by rw[← hE];rfl
  have s_ctPParse:E.spec 19=(Jj).spec:=by rw[← hE];rfl
  have s_ctYProg:E.spec 18=(Qp).spec:=by rw[← hE];rfl
  have s_ctSame05:E.spec 10=(Jn).spec:=by rw[← hE];rfl
  have ep:E.post=(fun v k=>∃ k',dP k' k∧φ v k'):=by rw[← hE]
  clear hE
  unfold EH
  by_cases hs:2000<s.length
  · rw[ah,if_pos (by simp[go_sem];omega)]
    rw[ae,ag,if_pos (by rfl),s_ctAwake07]
    refine⟨rfl,?_⟩
    refine⟨fun h=>(by cases h),(ai _ _).2 ⟨⟨[],[true],[],[],[],[]⟩,rfl,af,rfl,?_⟩⟩
    rw[ae,ak,ep]
    exact⟨h,fun _ _ h=>h,hφ⟩
  rw[ah,if_neg (by simp[go_sem];omega)]
  rw[ae,ag,if_pos (by rfl),s_ctPParse]
  refine⟨s,rfl,?_⟩
  unfold nV
  rw[if_neg (by omega)]
  intro f t hft
  by_cases hf:f.1=0
  rotate_left
  · rw[if_neg hf]
    refine⟨fun h=>(by cases h),(ai _ _).2 ⟨⟨[f.1,f.2.1,f.2.2],[],[],[],[⟨none,0,0⟩],[]⟩,rfl,af,rfl,?_⟩⟩
    rw[ae,ah,if_pos (by simpa[go_sem] using hf)]
    rw[ae,ag,if_pos (by rfl),s_ctAwake07]
    refine⟨rfl,?_⟩
    refine⟨fun h=>(by cases h),(ai _ _).2 ⟨⟨[],[true],[],[],[],[]⟩,rfl,af,rfl,?_⟩⟩
    rw[ae,ak,ep]
    exact⟨h,fun _ _ h=>h,hφ⟩
  rw[if_pos hf]
  intro sl k hle ho hn
  have hle':dP h k:=hle
  obtain⟨ks,rfl,W,hdp⟩:=QT hft hf (by omega)
  have htn:=(lX hft hf).2.1
  have hgl:=nK (Tr.nd 1 1 1 0 [] ks)
  rw[jk] at htn hgl
  have hlen:=DI W (by omega)
  obtain⟨t',f',hft',hf',hbare⟩:=PH (l:=1) (c:=1) W hdp
  refine⟨fun h=>(by cases h),(ai _ _).2 ⟨⟨[0,0,0],[],[],[],[sl],[]⟩,rfl,af,rfl,?_⟩⟩
  rw[ae,ah,if_neg (by simp[go_sem])]
  rw[ae,ag,if_pos (by rfl),s_ctYProg]
  refine⟨sl,_,rfl,NG.wM ho,by omega,.inr ⟨_,rfl,.inr ⟨Lh W,1,1,0,[],ks,rfl,fun t ht=>(yE (W t ht)).2.2,by omega,?_⟩⟩⟩
  refine⟨fun h=>(by cases h),(ai _ _).2 ⟨⟨[0],[],[eU ks],[],[],[]⟩,rfl,af,rfl,?_⟩⟩
  rw[ae,ag,if_pos (by rfl),s_ctPParse]
  refine⟨eU ks,rfl,?_⟩
  unfold nV
  by_cases hlong:65536<(eU ks).length
  · rw[if_pos hlong]
    refine⟨fun h=>(by cases h),(ai _ _).2 ⟨⟨[3,0,0],[],[],[],[⟨none,0,0⟩],[]⟩,rfl,af,rfl,?_⟩⟩
    rw[ae,ah,if_pos (by simp[go_sem]),ae,ag,if_pos (by simp[go_sem];omega),s_ctAwake07]
    refine⟨rfl,?_⟩
    refine⟨fun h=>(by cases h),(ai _ _).2 ⟨⟨[],[true],[],[],[],[]⟩,rfl,af,rfl,?_⟩⟩
    rw[ae,ak,ep]
    refine⟨h,hle',?_⟩
    have e:Ui 65536 (eU ks).length=true:=by rw[dh];omega
    simpa[go_sem,e] using hφ
  rw[if_neg hlong]
  intro f2 t2 hft2
  rw[hft'] at hft2
  cases hft2
  rw[if_pos hf']
  intro sl2 k2 hle2 ho2 hn2
  have hle2':dP k k2:=hle2
  obtain⟨ks',rfl,W',_⟩:=QT hft' hf' (by omega)
  have htn':=(lX hft' hf').2.1
  have hgl':=nK (Tr.nd 1 1 1 0 [] ks')
  rw[jk] at htn' hgl'
  have hks:bP ks'=bP ks:=by
   rw[Tr.bare,Tr.bare] at hbare
   simpa using hbare
  have htx:eU ks'=eU ks:=by rw[← sW,hks,sW]
  refine⟨fun h=>(by cases h),(ai _ _).2 ⟨⟨[0,0,0],[],[],[],[sl2],[]⟩,rfl,af,rfl,?_⟩⟩
  rw[ae,ah,if_neg (by simp[go_sem])]
  rw[ae,ag,if_pos (by rfl),s_ctYProg]
  refine⟨sl2,_,rfl,NG.wM ho2,by omega,.inr ⟨_,rfl,.inr ⟨Lh W',1,1,0,[],ks',rfl,fun t ht=>(yE (W' t ht)).2.2,by rw[htx];omega,?_⟩⟩⟩
  rw[htx]
  refine⟨fun h=>(by cases h),(ai _ _).2 ⟨⟨[0],[],[eU ks],[],[],[]⟩,rfl,af,rfl,?_⟩⟩
  rw[ae,ag,if_pos (by simp[go_sem]),s_ctSame05]
  refine⟨sl,sl2,_,_,rfl,(NG.wM ho).le hle2',NG.wM ho2,by omega,?_⟩
  rw[Iu hbare.symm]
  refine⟨fun h=>(by cases h),(ai _ _).2 ⟨⟨[],[true],[],[],[],[]⟩,rfl,af,rfl,?_⟩⟩
  rw[ae,ag,if_pos (by simp[go_sem]),s_ctAwake07]
  refine⟨rfl,?_⟩
  refine⟨fun h=>(by cases h),(ai _ _).2 ⟨⟨[],[true],[],[],[],[]⟩,rfl,af,rfl,?_⟩⟩
  rw[ae,ak,ep]
  refine⟨h,dP.trans hle' hle2',?_⟩
  simpa[go_sem] using hφ
theorem Uh (s:ByteArray) (w:World):Calls Tryz.prog 6 #[.string s] w fun e w'=>e=.returned (.bool true)∧Below w.heap.size w w':=by
 rw[MF s]
 exact ab7 VC (args:=[.string _]) ⟨_,rfl,rfl⟩ w
end Go.Proofs.YtllbpdllkkcajaaGreatDoor
namespace Go.Proofs.YtllbpdllkkcajaaGreatDoor
open Go.ChangeShapes Go.WideShapes Go.ChangeAt Go.RowKit
theorem own:ownKnob Tryz.prog.godebug=none:=by kernel_rfl
theorem laidOutB:laidOutB Tryz.prog=true:=by kernel_rfl
theorem Vp {H:Type} {enc:TypeId×Value→H} {W W':World} (hb:Below W.heap.size W W'):
 ∀ (ts:List TypeId) (vs:List Value) (ds:List (DataW H)) (ps:List MemPlace),(∀ t∈ts,Tryz.prog.readableRec t=true∧t<Tryz.prog.types.size)→(∀ x∈ps,x.block<W.heap.size)→
 DataW.TrodAll enc Tryz.prog W 0 (fun _=>true) true ts vs ds ps→DataW.TrodAll enc Tryz.prog W' 0 (fun b=>decide (b<W.heap.size)) true ts vs ds ps:=by
 intro ts
 induction ts with
 | nil=>
   intro vs ds ps _ _ h
   obtain⟨rfl,rfl,rfl⟩:=trodAll_nil h
   exact trodAll_mk0
 | cons t ts ih=>
   intro vs ds ps ht hp h
   obtain⟨v,vs',d,ds',p,q,rfl,rfl,rfl,h1,h2⟩:=trodAll_cons h
   have h3:=ht t (by simp)
   exact trodAll_cons_mk (Below.trod laidOutB h3.1 h3.2 h1 hb (fun x hx=>hp x (by simp[hx]))) (ih vs' ds' q (fun u hu=>ht u (by simp[hu])) (fun x hx=>hp x (by simp[hx])) h2)
theorem aab {H:Type} {enc:TypeId×Value→H} {s:ChangeSpec} {f:Func} {W W':World} {args:Array Value} {ds gs:List (DataW H)} {before:List MemPlace}
 (hv:s.vars=[]) (hres:f.resultTypes.toList=[4]) (hs1:f.resultTypes.size=1) (hts:∀ t∈f.params.toList,Tryz.prog.readableRec t=true∧t<Tryz.prog.types.size)
 (hfn:s.fn H ds={ results:=[.lit (.bool true)],args:=ds })
 (hW:DataW.Whole enc Tryz.prog f.params.toList s.vars false W args.toList ds gs before) (hb:Below W.heap.size W W'):
 s.post enc Tryz.prog f false true false false W args (.bool true) W':=by
 have hW0:=hW
 have hlt:=hW.lt
 obtain⟨p,q,hA,hV,hpq,hfz,hnd⟩:=hW
 rw[hv] at hV
 obtain⟨rfl,rfl⟩:=trodVars_none hV
 rw[List.append_nil] at hpq
 subst hpq
 have e:s.fn H (ds++[])={ results:=[.lit (.bool true)],args:=ds }:=by rw[List.append_nil];exact hfn
 refine⟨ds,[],before,[],before,[],hW0,?_,?_,?_,hb.frame _,fun h=>by cases h⟩
 · rw[e,hres,hs1]
   exact trodAll_mk1 (shut_bool Tryz.underlying4 true)
 · rw[e]
   exact Vp hb _ _ _ _ hts hlt hA
 · rw[e,hv];rfl
end Go.Proofs.YtllbpdllkkcajaaGreatDoor
namespace Go.Proofs.YtllbpdllkkcajaaGreatDoor
open Go.ChangeShapes Go.WideShapes Go.ChangeAt Go.RowKit
def firstCells:Array Value:=(Lib.firstTab.map (Value.int .u8)).toArray
def I7:Array Value:=#[.int .u8 128,.int .u8 191,.int .u8 160,.int .u8 191,.int .u8 128,.int .u8 159,.int .u8 144,.int .u8 191,.int .u8 128,.int .u8 143,.int .u8 0,.int .u8 0,.int .u8 0,.int .u8 0,.int .u8 0,.int .u8 0,.int .u8 0,.int .u8 0,.int .u8 0,.int .u8 0,.int .u8 0,.int .u8 0,.int .u8 0,.int .u8 0,.int .u8 0,.int .u8 0,.int .u8 0,.int .u8 0,.int .u8 0,.int .u8 0,.int .u8 0,.int .u8 0]
def putCells (c:Array Value):Obj→Obj
 | .cells _ t frozen=>.cells c t frozen
 | o=>o
noncomputable def laidWorld (os:Os):World:=
 { World.holding Tryz.prog os ⟨#[],#[],[]⟩ with heap:=((World.holding Tryz.prog os ⟨#[],#[],[]⟩).heap.modify 0 (putCells firstCells)).modify 1 (putCells I7) }
end Go.Proofs.YtllbpdllkkcajaaGreatDoor
namespace Go.Proofs.YtllbpdllkkcajaaGreatDoor.prettyAgain
open Go.ChangeShapes Go.WideShapes Go.ChangeAt Go.RowKit Go.Joins
open Go.ChangeMaps (open_string)
theorem Lu:∀ t∈Tryz.f6.params.toList,Tryz.prog.readableRec t=true∧t<Tryz.prog.types.size:=by
 rw[Tryz.params6]
 intro t ht
 have hm:t∈[9]:=by simpa using ht
 have hall:([9].all fun u=>Tryz.prog.readableRec u&&decide (u<Tryz.prog.types.size))=true:=by kernel_rfl
 have:=List.all_eq_true.1 hall t hm
 simpa using this
set_option maxRecDepth 100000 in
theorem contract (H:Type) (enc:TypeId×Value→H) (W:World) (base:Nat) (args:Array Value) (ds gs:List (DataW H)) (before:List MemPlace)
 (hval:∀ (j:Nat) t v,Tryz.f6.params[j]? = some t→args[j]? = some v→Value.okWide Tryz.prog W .any base t v)
 (hW:DataW.Whole enc Tryz.prog Tryz.f6.params.toList Rows.prettyAgainSpec.vars false W args.toList ds gs before) (_hL:laidMetH Tryz.prog Rows.prettyAgainRow.laid W):
 Calls Tryz.prog 6 args W fun e W'=>∃ v,e=.returned v∧Rows.prettyAgainSpec.post enc Tryz.prog Tryz.f6 false true false false W args v W':=by
 have hW':=hW
 obtain⟨p,q,hA0,hV,rfl,hfz,hnd⟩:=hW
 have hA:DataW.TrodAll enc Tryz.prog W 0 (fun _=>true) true Tryz.f6.params.toList args.toList ds p:=hA0
 rw[Tryz.params6] at hA hval
 obtain⟨v0,vs0,d0,ds0,p0,q0,hargs,rfl,rfl,h0,r0⟩:=trodAll_cons hA
 obtain⟨rfl,rfl,rfl⟩:=trodAll_nil r0
 obtain rfl:args=#[v0]:=by cases args;simp_all
 obtain⟨x0,rfl,rfl,rfl,w0⟩:=open_string Tryz.underlying9 (hval 0 9 v0 rfl rfl) h0
 refine (Uh x0 W).mono fun e W' ⟨he,hb⟩=>?_
 subst he
 exact⟨_,rfl,aab rfl (by kernel_rfl) (by kernel_rfl) Lu rfl hW' hb⟩
theorem laid_met (os:Os):laidMet Tryz.prog Rows.prettyAgainRow.laid ((laidWorld os).forCall (fun _ _=>0) ⟨#[],#[.string ⟨#[]⟩],[]⟩).memory:=
 laidMet_of_run' 8 (by kernel_rfl) (by kernel_rfl)
theorem reads (os:Os) {H:Type} (enc:TypeId×Value→H):∃ places,DataW.whole enc Tryz.prog ((laidWorld os).forCall (fun _ _=>0) ⟨#[],#[.string ⟨#[]⟩],[]⟩).memory Tryz.f6.params.toList Rows.prettyAgainSpec.vars false (#[.string ⟨#[]⟩]:Array Value).toList 8=some ([.lit (.string [])],[],places):=
 ⟨[],by kernel_rfl⟩
set_option maxRecDepth 100000 in
theorem lifted (os:Os) (started:os.Started) (H:Type) (enc:TypeId×Value→H) (F:Stop.Interp):
 ReturnsInHanded {} Tryz.checked os 6 .any ((OpenSpec.ofChange Rows.prettyAgainSpec).preRow enc Tryz.prog Tryz.f6 Rows.prettyAgainRow.domain false Rows.prettyAgainRow.laid) (((OpenSpec.ofChange Rows.prettyAgainSpec).at F).post enc Tryz.prog Tryz.f6 false true false false):=by
 obtain⟨places,hx⟩:=reads os enc
 refine returnsInHanded_of_row (C:=Tryz.checked) (s:=OpenSpec.ofChange Rows.prettyAgainSpec) own started (by kernel_rfl) Tryz.func6
  (witness_row_at (enc:=enc) (C:=Tryz.checked) false (laidWorld os) #[.string ⟨#[]⟩] rfl (by kernel_rfl) (by kernel_rfl) (by kernel_rfl)
   (OpenSpec.preRow_of_cond 8 hx (by kernel_rfl) (fun k hk=>by cases hk) (by kernel_rfl) (laid_met os))) ?_
 intro W base args ds gs before hval hW _ _ _ hL _ _
 exact contract H enc W base args ds gs before hval hW hL
theorem said:Rows.PrettyAgainSaid:=
 OpenClaim.holds_of_cond 6 Tryz.f6 rfl rfl rfl rfl rfl rfl rfl ⟨rfl,rfl,rfl,rfl,rfl⟩ rfl rfl rfl rfl rfl (by kernel_rfl) Tryz.func6 (by kernel_rfl)
  (of_decide_eq_true (by kernel_rfl)) (by unfold Func.isWrapper;first | (rw[if_pos (by decide +kernel)];kernel_rfl) | (rw[if_neg (by decide +kernel)];exact⟨rfl,rfl⟩))
  (fun os started H enc _ F=>by rw[OpenClaim.pre_eq_preRow];exact lifted os started H enc F)
theorem plain (f : FuncId) (fn : Func) (hf : Tryz.pinned.checked.prog.funcNamed "hindcast/hindcastlaw07.PrettyAgain" = some f) (hfn : Tryz.pinned.checked.prog.funcs[f]? = some fn) :
 false=Tryz.pinned.checked.prog.looks []∧∀ (j:Nat) t,fn.params[j]? = some t→Tryz.pinned.checked.prog.wantsStandIn t=false:=by
 obtain rfl : f = 6 := Option.some.inj ((show Tryz.prog.funcNamed "hindcast/hindcastlaw07.PrettyAgain" = some 6 by kernel_rfl).symm.trans hf) |>.symm
 obtain rfl:fn=Tryz.f6:=(Option.some.inj (Tryz.func6.symm.trans hfn)).symm
 refine⟨by kernel_rfl,fun j t ht=>?_⟩
 rw[Tryz.params6] at ht
 have hm:t∈[9]:=by simpa using Array.mem_of_getElem? ht
 have hall:([9].all fun u=>!Tryz.prog.wantsStandIn u)=true:=by kernel_rfl
 exact (show Tryz.prog.wantsStandIn t=false by simpa using List.all_eq_true.1 hall t hm)
theorem card:Rows.PrettyAgainCardSaid:=
 Claim7.holds_tied_plain_at .later [] _ _ _ _ said (fun _ h=>by cases h) (by kernel_rfl) (fun _ h=>by cases h) prettyAgain_row_tie rfl ⟨rfl,rfl⟩ (by kernel_rfl) rfl plain (by kernel_rfl)
end Go.Proofs.YtllbpdllkkcajaaGreatDoor.prettyAgain
