/- hindcastlaw29: texts joined: TreA, TreE, LexA, LexB, LexGI, LexH, LexI, LexK, LexM. -/
import Derived.Test.YtgpanefhaiohnaaGreatDoorZbe
namespace Go.Proofs.YtgpanefhaiohnaaGreatDoor
open Go.RowKit
attribute [local go_sem] aZ aY ag ai ak aN au aC aj says_again BE.den IE.den SE.den LE.den AE.den CE.den PE.den VE.den KV.val dw.den dw.cnt iM dU iY allL Ctx.push Ctx.heap Ctx.cut Ctx.bare Ctx.mark Inc.blank List.getD_cons_zero List.getD_cons_succ List.cons_append List.nil_append List.append_nil List.map_cons List.map_nil List.replicate_zero List.replicate_succ aB bQ bu bG bn bY cO aU aT aV bF bD aF aO aH aA ax aS aI bW af and_assoc
def Ob:Fm:=(.O (.pt 0 0) 1 [.U 5] ⟨1,0,0,0,0,0⟩
 (.load (.le (.x 5) (.x 0)) (.pt 1 0) 1 [.U 6] ⟨1,0,0,0,0,0⟩
 (.ret (.p (.one (.b (.and (.le (.x 5) (.x 0)) (.le (.x 0) (.x 6)))))))))
theorem Tn:qU ⟨true,[]⟩ Tryz.prog (fun l=>([]:List dL).getD l ⟨[],[],[]⟩) Tryz.f397 [.agg [.U 0,.J 1,.J 2,.J 3,.J 4,.s (.x 0)],.one (.adr (.pt 0 0)),.one (.adr (.pt 1 0))] ⟨5,0,1,0,0,2⟩=Ob:=by kernel_rfl
def S9:Fm:=(.O (.pt 0 0) 1 [(.sl (.x 0))] ⟨0,0,0,0,1,0⟩
 (.loop 0 ⟨[(.c 0)],[(.c false)],[],[],[],[]⟩
 (.ite (.lt (.x 5) (.cnt (.x 0)))
 (.N (.X (.x 5) (.x 0))
 (.O (.el (.x 0) (.x 5) 1 0) 1 [.U 6] ⟨1,0,0,0,0,0⟩
 (.ite (.eqI (.x 0) (.x 6))
 (.ret (.p (.one (.b (.c true)))))
 (.N (.R (.add (.x 5) (.c 1)))
 (.again 0 ⟨5,0,1,0,1,1⟩ ⟨6,1,1,0,1,1⟩ ⟨[(.add (.x 5) (.c 1))],[(.x 0)],[],[],[],[]⟩)))))
 (.ret (.p (.one (.b (.c false))))))))
theorem Wv:qU ⟨true,[]⟩ Tryz.prog (fun l=>([⟨[3,8],[9,10,11,5,12,13,14,15,16],[]⟩]:List dL).getD l ⟨[],[],[]⟩) Tryz.f320 [.agg [.U 0,.J 1,.J 2,.J 3,.J 4,.s (.x 0)],.one (.adr (.pt 0 0))] ⟨5,0,1,0,0,1⟩=S9:=by kernel_rfl
def SY:Fm:=(.new [.U 0] 5
 (.new [.U 1] 5
 (.ret (.p (.one (.clo 397 [0,1]))))))
theorem Wu:df ⟨true,[2,3]⟩ Tryz.prog (fun l=>([]:List dL).getD l ⟨[],[],[]⟩) Tryz.f324=SY:=by kernel_rfl
theorem Y6:aX Tryz.prog .zero Tryz.f324.params.toList=some ([(.one (.U 0)),(.one (.U 1))],⟨2,0,0,0,0,0⟩):=by kernel_rfl
def H7:Fm:=(.C 324 [(.one (.i .u8 (.c 15))),(.one (.i .u8 (.c 20)))] (.p (.one (.v 0))) ⟨0,0,0,1,0,0⟩
 (.C 1000001 [(.one (.v 0)),(.agg [.U 0,.J 1,.J 2,.J 3,.J 4,(.s (.x 0))])] (.p (.B 0)) ⟨0,1,0,0,0,0⟩
 (.ret (.p (.B 0)))))
theorem Qa:df ⟨true,[]⟩ Tryz.prog (fun l=>([]:List dL).getD l ⟨[],[],[]⟩) Tryz.f322=H7:=by kernel_rfl
theorem UG:aX Tryz.prog .zero Tryz.f322.params.toList=some ([(.agg [.U 0,.J 1,.J 2,.J 3,.J 4,(.s (.x 0))])],⟨5,0,1,0,0,0⟩):=by kernel_rfl
def Ht:Fm:=(.C 324 [(.one (.i .u8 (.c 21))),(.one (.i .u8 (.c 32)))] (.p (.one (.v 0))) ⟨0,0,0,1,0,0⟩
 (.C 1000001 [(.one (.v 0)),(.agg [.U 0,.J 1,.J 2,.J 3,.J 4,(.s (.x 0))])] (.p (.B 0)) ⟨0,1,0,0,0,0⟩
 (.ret (.p (.B 0)))))
theorem PY:df ⟨true,[]⟩ Tryz.prog (fun l=>([]:List dL).getD l ⟨[],[],[]⟩) Tryz.f326=Ht:=by kernel_rfl
theorem Uz:aX Tryz.prog .zero Tryz.f326.params.toList=some ([(.agg [.U 0,.J 1,.J 2,.J 3,.J 4,(.s (.x 0))])],⟨5,0,1,0,0,0⟩):=by kernel_rfl
def Ci:Fm:=(.ret (.p (.one (.b (.eqI (.x 0) (.c 6))))))
theorem La:df ⟨true,[]⟩ Tryz.prog (fun l=>([]:List dL).getD l ⟨[],[],[]⟩) Tryz.f396=Ci:=by kernel_rfl
theorem QN:aX Tryz.prog .zero Tryz.f396.params.toList=some ([(.agg [.U 0,.J 1,.J 2,.J 3,.J 4,(.s (.x 0))])],⟨5,0,1,0,0,0⟩):=by kernel_rfl
structure Ng where
 k:Int
 l:Int
 c:Int
 z:Int
 n:Int
 x:List UInt8
 deriving DecidableEq
def Ng.cs (x:Ng):List Value:=[.int .u8 x.k,.int .i64 x.l,.int .i64 x.c,.int .i64 x.z,.int .i64 x.n,.string (B x.x)]
def Ng.v (x:Ng):Value:=.agg #[.int .u8 x.k,.int .i64 x.l,.int .i64 x.c,.int .i64 x.z,.int .i64 x.n,.string (B x.x)]
def Cm (l:List Ng):List Value:=l.flatMap Ng.cs
theorem EC (l:List Ng):(Cm l).length=l.length*6:=by
 induction l with
 | nil=>rfl
 | cons a l ih=>rw[Cm,List.flatMap_cons,List.length_append];show 6+(Cm l).length=_;rw[ih,List.length_cons];omega
theorem Ic (a:Ng) (l:List Ng):Cm (a::l)=a.cs++Cm l:=by rw[Cm,List.flatMap_cons];rfl
theorem Ws (a b:List Ng):Cm (a++b)=Cm a++Cm b:=by simp[Cm]
theorem YK {l:List Ng} {j:Nat} (hj:j<l.length):(Cm l).drop (j*6)=l[j].cs++Cm (l.drop (j+1)):=by
 induction l generalizing j with
 | nil=>simp at hj
 | cons a l ih=>
   cases j with
   | zero=>simp[Ic]
   | succ j=>
     rw[Ic,show (j+1)*6=a.cs.length+j*6 by simp[Ng.cs];omega,List.drop_append]
     have:(a.cs.drop (a.cs.length+j*6))=[]:=List.drop_eq_nil_of_le (by omega)
     rw[this,List.nil_append,Nat.add_sub_cancel_left]
     simpa using ih (by simpa using hj)
def Rows (h:Hp) (sl:bg) (cs:List Value) (sz:Nat):Prop:=cs.length=sl.n*sz∧(sl.n=0∨hread h sl.a (sl.n*sz)=some cs)
theorem Rows.le {h k:Hp} {sl:bg} {cs:List Value} {sz:Nat} (R:Rows h sl cs sz) (hl:dm h k):Rows k sl cs sz:=⟨R.1,R.2.imp id (Iq hl)⟩
theorem Ip {h:Hp} {b o n:Nat} {cs:List Value} (hr:hread h (some (b,o)) n=some cs) {k m:Nat} (hk:k+m≤n):hread h (some (b,o+k)) m=some ((cs.drop k).take m):=by
 unfold hread at hr⊢
 simp only at hr⊢
 split at hr
 · rename_i x hx
   split at hr
   · cases hr
     rw[if_pos (by omega)]
     congr 1
     rw[List.drop_take,List.take_take,List.drop_drop,Nat.min_eq_left (by omega)]
   · cases hr
 · cases hr
theorem Rows.nn {h:Hp} {sl:bg} {cs:List Value} {sz j:Nat} (R:Rows h sl cs sz) (hj:j<sl.n):∃ b o,sl.a=some (b,o):=by
 rcases R.2 with h0 | hr
 · omega
 · unfold hread at hr
   cases ha:sl.a with
   | none=>rw[ha] at hr;cases hr
   | some q=>exact⟨q.1,q.2,rfl⟩
theorem Rows.read {h:Hp} {sl:bg} {cs:List Value} {sz j off m b o:Nat} (R:Rows h sl cs sz) (hj:j<sl.n) (hm:off+m≤sz) (ha:sl.a=some (b,o)):hread h (some (b,o+j*sz+off)) m=some ((cs.drop (j*sz+off)).take m):=by
 rcases R.2 with h0 | hr
 · omega
 · rw[ha] at hr
   rw[Nat.add_assoc]
   refine Ip hr ?_
   have:j*sz+sz≤sl.n*sz:=by
    have:=Nat.mul_le_mul_right sz (show j+1≤sl.n by omega)
    rw[Nat.add_mul,Nat.one_mul] at this
    exact this
   omega
theorem Rows.eu {h:Hp} {sl:bg} {cs:List Value} {T:TypeId} {sz:Nat} (ho:bJ h sl cs T sz):Rows h sl cs sz:=by
 rcases ho with ⟨rfl,rfl⟩ | ⟨b,o,h1,h2,h3,h4,h5,h6,h7⟩
 · exact⟨by simp,.inl rfl⟩
 · have hle:=Nat.mul_le_mul_right sz h5
   refine⟨by rw[h7,List.length_take];omega,.inr ?_⟩
   rw[h1,dN h2,if_pos (by omega),h7]
   rfl
def NG (h:Hp) (sl:bg) (l:List Ng):Prop:=Rows h sl (Cm l) 6
theorem NG.n {h:Hp} {sl:bg} {l:List Ng} (R:NG h sl l):sl.n=l.length:=by
 have:=R.1
 rw[EC] at this
 omega
theorem NG.le {h k:Hp} {sl:bg} {l:List Ng} (R:NG h sl l) (hl:dm h k):NG k sl l:=Rows.le R hl
theorem NG.node {h:Hp} {sl:bg} {l:List Ng} (R:NG h sl l) {j b o:Nat} (hj:j<l.length) (ha:sl.a=some (b,o)):hread h (some (b,o+j*6+0)) 6=some l[j].cs:=by
 have hn:=NG.n R
 rw[Rows.read R (by omega) (by omega) ha,Nat.add_zero,YK hj]
 rfl
def Want (cs:List (Ct Tryz.prog)) (h:Hp) (v:Value) (p:Ng→Bool):Prop:=
 ∃ f cap,v=.func (.func f) #[] (List.toArray cap)∧gJ Tryz.prog f=true∧f≠bu∧∀ (x:Ng) k φ,dm h k→φ (.bool (p x)) k→bQ cs f (x.v::cap) k φ
theorem Want.le {cs:List (Ct Tryz.prog)} {h k:Hp} {v:Value} {p:Ng→Bool} (W:Want cs h v p) (hl:dm h k):Want cs k v p:=by
 obtain⟨f,cap,h1,h2,h3,h4⟩:=W
 exact⟨f,cap,h1,h2,h3,fun x k' φ hk hφ=>h4 x k' φ (fun b o hb=>hk b o (hl b o hb)) hφ⟩
theorem Want.call {cs:List (Ct Tryz.prog)} {h:Hp} {v:Value} {p:Ng→Bool} (W:Want cs h v p) {k:Hp} (hl:dm h k) {x:Ng} {φ:Value→Hp→Prop} (hφ:φ (.bool (p x)) k):aB cs bu [v,x.v] k φ:=by
 obtain⟨f,cap,rfl,h2,h3,h4⟩:=W
 unfold aB
 rw[if_pos rfl]
 exact⟨[x.v],f,cap,rfl,h2,h3,h4 x k φ hl hφ⟩
def YC (a b:Int) (x:Ng):Bool:=decide (a≤x.k)&&decide (x.k≤b)
def lZ:Ct Tryz.prog where
 f:=397
 spec:=fun args h φ=>∃ x p q a b T U,args=[Ng.v x,.pointer (some ⟨p,0,none⟩),.pointer (some ⟨q,0,none⟩)]∧h p=some ⟨[.int .u8 a],T⟩∧h q=some ⟨[.int .u8 b],U⟩∧φ (.bool (YC a b x)) h
 ok:=by
  rintro args h φ w ⟨x,p,q,a,b,T,U,rfl,hp,hq,hφ⟩ hH
  refine J9 Tryz.func397 Tn [] φ ig eX ⟨[x.k,x.l,x.c,x.z,x.n],[],[x.x],[],[],[some (p,0),some (q,0)],h,dY⟩ ⟨rfl,rfl,rfl,rfl,rfl,rfl⟩ af ?_ w hH rfl
  unfold YC at hφ
  rw[← ae];unfold Ob
  by_cases h1:a≤x.k
  · iterate 6 (try simp only[ae];try simp[go_sem,dN hp,dN hq,h1])
    simpa[h1,leB] using hφ
  · iterate 6 (try simp only[ae];try simp[go_sem,dN hp,h1])
    simpa[h1,leB] using hφ
def Su:Ct Tryz.prog where
 f:=396
 spec:=fun args h φ=>∃ x,args=[Ng.v x]∧φ (.bool (decide (x.k=6))) h
 ok:=by
  rintro args h φ w ⟨x,rfl,hφ⟩ hH
  refine dD Tryz.func396 La QN [] φ ig eX ⟨[x.k,x.l,x.c,x.z,x.n],[],[x.x],[],[],[],h,dY⟩ ⟨rfl,rfl,rfl,rfl,rfl,rfl⟩ af ?_ w hH rfl
  rw[← ae];unfold Ci
  iterate 3 (try simp only[ae];try simp[go_sem])
  exact hφ
def ZI (l:List Int):List Value:=l.map fun k=>.int .u8 k
theorem Ov (l:List Int):(ZI l).length=l.length:=by simp[ZI]
set_option maxHeartbeats 2000000 in
def Zy:Ct Tryz.prog where
 f:=320
 spec:=fun args h φ=>∃ x p sl l T,args=[Ng.v x,.pointer (some ⟨p,0,none⟩)]∧h p=some ⟨[bg.val sl],T⟩∧Rows h sl (ZI l) 1∧l.length≤1000∧φ (.bool (l.contains x.k)) h
 ok:=by
  rintro args h φ w ⟨x,p,sl,l,T,rfl,hp,R,hl,hφ⟩ hH
  have hn:sl.n=l.length:=by have:=R.1;rw[Ov] at this;omega
  refine J9 Tryz.func320 Wv [] φ (fun _ C=>∃ j:Nat,C=⟨[x.k,x.l,x.c,x.z,x.n,j],[false],[x.x],[],[sl],[some (p,0)],h,dY⟩∧j≤l.length∧l.contains x.k=(l.drop j).contains x.k) (fun _ C=>(l.length - C.i.getD 5 0).toNat)
   ⟨[x.k,x.l,x.c,x.z,x.n],[],[x.x],[],[],[some (p,0)],h,dY⟩ ⟨rfl,rfl,rfl,rfl,rfl,rfl⟩ af ?_ w hH rfl
  generalize hE:(⟨aB _,_,_,_⟩:Env)=E
  have ep:E.post=φ:=by rw[← hE]
  have ei:E.inv=(fun _ C=>∃ j:Nat,C=⟨[x.k,x.l,x.c,x.z,x.n,j],[false],[x.x],[],[sl],[some (p,0)],h,dY⟩∧j≤l.length∧l.contains x.k=(l.drop j).contains x.k):=by rw[← hE]
  have em:E.meas=(fun _ C=>((l.length:Int) - C.i.getD 5 0).toNat):=by rw[← hE]
  clear hE
  unfold S9
  rw[au,if_pos (by rfl)]
  refine (ah _ _).2 ⟨⟨[],[],[],[],[sl],[]⟩,rfl,af,by simp[go_sem,dN hp],?_⟩
  rw[ae]
  refine aQ ?_ ?_
  · rw[ei]
    exact⟨0,rfl,by omega,rfl⟩
  rw[ei,em]
  rintro i bb ss v ll pp hh M ⟨j,hC,h3,h4⟩ hM
  cases hC
  have hM':M 0=((l.length:Int) - j).toNat:=hM
  rw[h4] at hφ
  by_cases hj:j<l.length
  · obtain⟨b,o,ha⟩:=R.nn (j:=j) (by omega)
    have hrd:=Rows.read (off:=0) (m:=1) R (j:=j) (by omega) (by omega) ha
    have hz:(j:Int)<sl.n:=by omega
    have e:(List.drop (j*1+0) (ZI l)).take 1=[.int .u8 l[j]]:=by
     rw[Nat.mul_one,Nat.add_zero,List.drop_eq_getElem_cons (by rw[Ov];exact hj)]
     simp[ZI]
    rw[e] at hrd
    rw[List.drop_eq_getElem_cons hj] at h4 hφ
    generalize l[j]=y at *
    rw[ai,if_pos (by simpa[go_sem] using hz),ae,ag]
    refine⟨by simp[go_sem,hz,ha],?_⟩
    rw[ae,au,if_pos (by rfl)]
    refine (ah _ _).2 ⟨⟨[y],[],[],[],[],[]⟩,rfl,af,by simpa[go_sem,ha] using hrd,?_⟩
    by_cases hx:x.k=y
    · rw[ae,ai,if_pos (by simpa[go_sem] using hx),ae,aj,ep]
      simpa[go_sem,hx] using hφ
    · rw[ae,ai,if_neg (by simpa[go_sem] using hx),ae,ag]
      refine⟨by simp[go_sem];omega,?_⟩
      rw[ae]
      simp[go_sem,ei,em]
      exact⟨⟨j+1,by simp,by omega,by simpa[hx] using h4⟩,by omega⟩
  · have hz:¬ ((j:Int)<sl.n):=by omega
    rw[List.drop_eq_nil_of_le (by omega)] at hφ
    rw[ai,if_neg (by simpa[go_sem] using hz),ae,aj,ep]
    simpa[go_sem] using hφ
def wo:Ct Tryz.prog where
 f:=324
 spec:=fun args h φ=>∃ a b,args=[.int .u8 a,.int .u8 b]∧∀ p q k,dm h k→k p=some ⟨[.int .u8 a],5⟩→k q=some ⟨[.int .u8 b],5⟩→φ (.func (.func 397) #[] #[.pointer (some ⟨p,0,none⟩),.pointer (some ⟨q,0,none⟩)]) k
 ok:=by
  rintro args h φ w ⟨a,b,rfl,hφ⟩ hH
  refine dD Tryz.func324 Wu Y6 [] φ (ig) (eX) ⟨[a,b],[],[],[],[],[],h,dY⟩ ⟨rfl,rfl,rfl,rfl,rfl,rfl⟩ af ?_ w hH rfl
  generalize hE:(⟨aB _,_,_,_⟩:Env)=E
  have ep:E.post=φ:=by rw[← hE]
  clear hE
  unfold SY
  rw[jZ]
  intro p hp
  rw[ae,jZ]
  intro q hq
  rw[ae,aj,ep]
  have hp':h p=none:=hp
  have hq':(h.set p ⟨[.int .u8 a],5⟩) q=none:=hq
  have hne:q≠p:=fun e=>by rw[e,ax] at hq';cases hq'
  refine hφ p q _ (fun c o hc=>?_) ?_ ?_
  · show ((h.set p _).set q _) c=_
    rw[bi _ (fun e=>by rw[e] at hc;rw[bi _ hne,hc] at hq';cases hq'),bi _ (fun e=>by rw[e,hp'] at hc;cases hc)]
    exact hc
  · show ((h.set p _).set q _) p=_
    rw[bi _ hne.symm,ax];rfl
  · show ((h.set p _).set q _) q=_
    rw[ax];rfl
theorem Gq {cs:List (Ct Tryz.prog)} (hc:bQ cs 397=lZ.spec) {p q:Nat} {a b:Int} {k:Hp} (h1:k p=some ⟨[.int .u8 a],5⟩) (h2:k q=some ⟨[.int .u8 b],5⟩) {x:Ng} {φ:Value→Hp→Prop} (hφ:φ (.bool (YC a b x)) k):
 aB cs bu [.func (.func 397) #[] #[.pointer (some ⟨p,0,none⟩),.pointer (some ⟨q,0,none⟩)],x.v] k φ:=by
 unfold aB
 rw[if_pos rfl]
 refine⟨[x.v],_,[.pointer (some ⟨p,0,none⟩),.pointer (some ⟨q,0,none⟩)],rfl,by kernel_rfl,by decide,?_⟩
 rw[hc]
 exact⟨x,p,q,a,b,_,_,rfl,h1,h2,hφ⟩
def V4:Ct Tryz.prog where
 f:=322
 spec:=fun args h φ=>∃ x,args=[Ng.v x]∧φ (.bool (YC 15 20 x)) h
 ok:=by
  rintro args h φ w ⟨x,rfl,hφ⟩ hH
  refine fA (dD Tryz.func322 Qa UG [wo,lZ] (fun v k=>∃ k',dm k' k∧φ v k') ig eX ⟨[x.k,x.l,x.c,x.z,x.n],[],[x.x],[],[],[],h,dY⟩ ⟨rfl,rfl,rfl,rfl,rfl,rfl⟩ af ?_ w hH rfl)
  have hs:bQ [wo,lZ] 397=lZ.spec:=rfl
  generalize hE:(⟨aB _,_,_,_⟩:Env)=E
  have s1:E.spec 324=wo.spec:=by rw[← hE];rfl
  have s2:E.spec 1000001=aB [wo,lZ] bu:=by rw[← hE];rfl
  have ep:E.post=(fun v k=>∃ k',dm k' k∧φ v k'):=by rw[← hE]
  clear hE
  unfold H7
  rw[ak,if_pos (by rfl),s1]
  refine⟨15,20,rfl,fun p q k hk h1 h2=>?_⟩
  refine⟨fun h=>(by cases h),(ah _ _).2 ⟨⟨[],[],[],[.func (.func 397) #[] #[.pointer (some ⟨p,0,none⟩),.pointer (some ⟨q,0,none⟩)]],[],[]⟩,rfl,by intro u hu;simp at hu;subst hu;rfl,rfl,?_⟩⟩
  rw[ae,ak,if_pos (by rfl),s2]
  refine Gq (x:=x) hs h1 h2 ?_
  refine⟨fun h=>(by cases h),(ah _ _).2 ⟨⟨[],[YC 15 20 x],[],[],[],[]⟩,rfl,af,rfl,?_⟩⟩
  rw[ae,aj,ep]
  exact⟨h,hk,hφ⟩
end Go.Proofs.YtgpanefhaiohnaaGreatDoor
namespace Go.Proofs.YtgpanefhaiohnaaGreatDoor
open Go.RowKit
attribute [local go_sem] aZ aY ag ai ak aN au aC aj says_again BE.den IE.den SE.den LE.den AE.den CE.den PE.den VE.den KV.val dw.den dw.cnt iM dU iY allL Ctx.push Ctx.heap Ctx.cut Ctx.bare Ctx.mark Inc.blank List.getD_cons_zero List.getD_cons_succ List.cons_append List.nil_append List.append_nil List.map_cons List.map_nil List.replicate_zero List.replicate_succ aB bQ bu bG bn bY cO aU aT aV bF bD aF aO aH aA ax aS aI bW af and_assoc
def Zp (l:List Int):List Value:=l.map fun k=>.int .i64 k
theorem WA (l:List Int):(Zp l).length=l.length:=by simp[Zp]
theorem Y3 {h k:Hp} {s:bg} {xs:List Value} {ty:TypeId} {sz:Nat} (ho:bJ h s xs ty sz) (hl:dm h k):bJ k s xs ty sz:=by
 rcases ho with h0 | ⟨b,o,h1,h2,h3⟩
 · exact .inl h0
 · exact .inr ⟨b,o,h1,hl _ _ h2,h3⟩
def rest (_l:List Ng) (at_:Nat) (z:Int) (C:Ctx):Nat:=((at_:Int)+z+1 - C.i.getD 1 0).toNat
end Go.Proofs.YtgpanefhaiohnaaGreatDoor
namespace Go.Proofs.YtgpanefhaiohnaaGreatDoor
open Go.RowKit
def nZ (b:Int):Int:=if (97≤b∧b≤122)∨b=95 then 1 else if 65≤b∧b≤90 then 2 else if 48≤b∧b≤57 then 3 else 0
def inB (b:Int):Bool:=decide (0<nZ b)
def YH (b:Int):Bool:=decide (nZ b=3)
def rn (p:Int→Bool) (s:List UInt8) (i:Nat):Nat:=((s.drop i).takeWhile fun c=>p c.toNat).length
theorem Ha (l:List UInt8) (k:Nat) (h:k<l.length):l.drop k=l[k]::l.drop (k+1):=List.drop_eq_getElem_cons h
theorem Zb {p:Int→Bool} {s:List UInt8} {i:Nat} (h:i<s.length) (hp:p (bt s i)=true):rn p s i=rn p s (i+1)+1:=by
 unfold rn
 rw[Ha s i h,List.takeWhile_cons,← rO s i h,if_pos hp];rfl
theorem ZZ {p:Int→Bool} {s:List UInt8} {i:Nat} (h:i<s.length) (hp:p (bt s i)=false):rn p s i=0:=by
 unfold rn
 rw[Ha s i h,List.takeWhile_cons,← rO s i h,if_neg (by rw[hp];decide)];rfl
theorem Za {p:Int→Bool} {s:List UInt8} {i:Nat} (h:s.length≤i):rn p s i=0:=by
 unfold rn;rw[List.drop_eq_nil_of_le h];rfl
theorem Yj {p:Int→Bool} {s:List UInt8} {i:Nat} (h:i≤s.length):i+rn p s i≤s.length:=by
 unfold rn
 have:=(List.takeWhile_sublist (l:=s.drop i) (p:=fun c=>p c.toNat)).length_le
 rw[List.length_drop] at this
 omega
def ad (p:Int×Int) (b:Int):Int×Int:=if b=10 then (p.1+1,1) else (p.1,p.2+1)
def adv (p:Int×Int) (l:List UInt8):Int×Int:=l.foldl (fun p c=>ad p c.toNat) p
def sub (s:List UInt8) (i j:Nat):List UInt8:=(s.take j).drop i
theorem Vo (s:List UInt8) (i:Nat):sub s i i=[]:=by
 unfold sub;exact List.drop_eq_nil_of_le (by rw[List.length_take];omega)
end Go.Proofs.YtgpanefhaiohnaaGreatDoor
namespace Go.Proofs.YtgpanefhaiohnaaGreatDoor
open Go.RowKit
attribute [local go_sem] Fm.says BE.den IE.den SE.den LE.den AE.den CE.den PE.den VE.den KV.val dw.den dw.cnt iM dU iY allL Ctx.push Ctx.heap Ctx.cut Ctx.bare Ctx.mark Inc.blank List.getD_cons_zero List.getD_cons_succ List.cons_append List.nil_append List.append_nil List.map_cons List.map_nil List.replicate_zero List.replicate_succ aB bQ bu bG bn bY cO aU aT aV bF bD aF aO aH aA ax aS aI bW af and_assoc
def sN:Fm:=(.ite (.or (.and (.le (.c 97) (.x 0)) (.le (.x 0) (.c 122))) (.eqI (.x 0) (.c 95)))
 (.ret (.p (.I (.c 1))))
 (.ite (.and (.le (.c 65) (.x 0)) (.le (.x 0) (.c 90)))
 (.ret (.p (.I (.c 2))))
 (.ite (.and (.le (.c 48) (.x 0)) (.le (.x 0) (.c 57)))
 (.ret (.p (.I (.c 3))))
 (.ret (.p (.I (.c 0)))))))
theorem Tq:df ⟨true,[]⟩ Tryz.prog (fun l=>([]:List dL).getD l ⟨[],[],[]⟩) Tryz.f101=sN:=by kernel_rfl
theorem Xe:aX Tryz.prog .zero Tryz.f101.params.toList=some ([(.one (.U 0))],⟨1,0,0,0,0,0⟩):=by kernel_rfl
def jU:Ct Tryz.prog where
 f:=101
 spec:=fun args h φ=>∃ b:Int,args=[.int .u8 b]∧φ (.int .i64 (nZ b)) h
 ok:=by
  rintro args h φ w ⟨b,rfl,hφ⟩ hH
  refine dD Tryz.func101 Tq Xe [] φ ig eX ⟨[b],[],[],[],[],[],h,dY⟩ ⟨rfl,rfl,rfl,rfl,rfl,rfl⟩ af ?_ w hH rfl
  unfold nZ at hφ
  by_cases h1:(97≤b∧b≤122)∨b=95
  · rw[if_pos h1] at hφ
    simp[sN,go_sem,h1,hφ]
    intro x y;exfalso;omega
  · rw[if_neg h1] at hφ
    by_cases h2:65≤b∧b≤90
    · rw[if_pos h2] at hφ
      simp[sN,go_sem,h1,h2,hφ]
      intro x y z;exfalso;omega
    · rw[if_neg h2] at hφ
      by_cases h3:48≤b∧b≤57
      · rw[if_pos h3] at hφ
        simp[sN,go_sem,h1,h2,h3,hφ]
        intro x y z u;exfalso;omega
      · rw[if_neg h3] at hφ
        simp[sN,go_sem,h1,h2,h3,hφ]
end Go.Proofs.YtgpanefhaiohnaaGreatDoor
namespace Go.Proofs.YtgpanefhaiohnaaGreatDoor
open Go.RowKit
attribute [local go_sem] aZ aY vM Ag vJ rC vK Ah FN Jz Jy JA aj says_again fG BE.den IE.den SE.den LE.den AE.den CE.den PE.den VE.den KV.val dw.den dw.cnt iM dU iY allL Ctx.push Ctx.heap Ctx.cut Ctx.bare Ctx.mark Inc.blank List.getD_cons_zero List.getD_cons_succ List.cons_append List.nil_append List.append_nil List.map_cons List.map_nil List.replicate_zero List.replicate_succ aB bQ bu bG bn bY cO aU aT aV bF bD aF aO aH aA ax aS aI bW af and_assoc
def PU:Fm:=(.loop 0 ⟨[(.x 0)],[],[],[],[],[]⟩
 (.need (.lt (.x 1) (.len (.x 0))) (.and (.le (.c 0) (.x 1)) (.lt (.x 1) (.len (.x 0))))
 (.call (.lt (.x 1) (.len (.x 0))) false 101 [(.one (.i .u8 (.at (.x 0) (.x 1))))] (.p (.J 2)) ⟨1,0,0,0,0,0⟩
 (.ite (.and (.lt (.x 1) (.len (.x 0))) (.lt (.c 0) (.x 2)))
 (.N (.R (.add (.x 1) (.c 1)))
 (.again 0 ⟨1,0,1,0,0,0⟩ ⟨2,0,1,0,0,0⟩ ⟨[(.add (.x 1) (.c 1))],[],[],[],[],[]⟩))
 (.ret (.p (.J 1)))))))
theorem KI:df ⟨true,[]⟩ Tryz.prog (fun l=>([⟨[1],[5,6,7,8,9,10,11,12,13,14,15,16,17],[]⟩]:List dL).getD l ⟨[],[],[]⟩) Tryz.f102=PU:=by kernel_rfl
theorem Qz:aX Tryz.prog .zero Tryz.f102.params.toList=some ([.S 0,.J 0],⟨1,0,1,0,0,0⟩):=by kernel_rfl
set_option maxHeartbeats 2000000 in
def GL:Ct Tryz.prog where
 f:=102
 spec:=fun args h φ=>∃ s i,args=[.string (B s),.int .i64 i]∧0≤i∧i≤s.length∧s.length≤1000000∧φ (.int .i64 (i+rn inB s i.toNat)) h
 ok:=by
  rintro args h φ w ⟨s,i,rfl,h0,h1,h2,hφ⟩ hH
  obtain⟨a,rfl⟩:∃ n:Nat,i=n:=⟨i.toNat,by omega⟩
  rw[Int.toNat_natCast] at hφ
  refine dD Tryz.func102 KI Qz [jU] φ (fun _ C=>∃ k:Nat,C=⟨[a,k],[],[s],[],[],[],h,dY⟩∧a≤k∧k≤s.length∧rn inB s a=(k - a)+rn inB s k) (fun _ C=>(s.length - C.i.getD 1 0).toNat) ⟨[a],[],[s],[],[],[],h,dY⟩ ⟨rfl,rfl,rfl,rfl,rfl,rfl⟩ af ?_ w hH rfl
  refine aQ ⟨a,rfl,Nat.le_refl _,by omega,by omega⟩ ?_
  rintro i bb ss v ll pp hh M ⟨k,hC,h3,h4,h5⟩ hM
  cases hC
  have hM':M 0=((s.length:Int) - k).toNat:=hM
  have fin:rn inB s k=0→φ (.int .i64 k) h:=fun h0=>by
   rw[h0] at h5
   rw[show (k:Int)=(a:Int)+(rn inB s a:Int) by omega];exact hφ
  by_cases hk:k<s.length
  · have hlt:(k:Int)<s.length:=by omega
    by_cases hb:0<nZ (bt s k)
    · have hy:=Zb (p:=inB) hk (by simp[inB,hb])
      simp[go_sem,jU,hlt,hb]
      (repeat' apply And.intro)<;>first | omega | exact⟨k+1,by omega,by omega,by omega,by omega⟩
    · have hn:=ZZ (p:=inB) hk (by simp[inB];omega)
      have:=fin hn
      simp[go_sem,jU,hlt,hb,this]
  · have hge:¬ ((k:Int)<s.length):=by omega
    have:=fin (Za (by omega))
    simp[go_sem,jU,hge,this]
end Go.Proofs.YtgpanefhaiohnaaGreatDoor
namespace Go.Proofs.YtgpanefhaiohnaaGreatDoor
open Go.RowKit
attribute [local go_sem] aZ aY vM Ag vJ rC vK Ah FN Jz Jy JA aj says_again fG BE.den IE.den SE.den LE.den AE.den CE.den PE.den VE.den KV.val dw.den dw.cnt iM dU iY allL Ctx.push Ctx.heap Ctx.cut Ctx.bare Ctx.mark Inc.blank List.getD_cons_zero List.getD_cons_succ List.cons_append List.nil_append List.append_nil List.map_cons List.map_nil List.replicate_zero List.replicate_succ aB bQ bu bG bn bY cO aU aT aV bF bD aF aO aH aA ax aS aI bW af and_assoc
def Ey:Fm:=(.ite (.eqS (.x 0) (.c [114,101,99]))
 (.ite (.eqS (.x 0) (.c [114,101,99]))
 (.ret (.p (.one (.b (.c true)))))
 (.ret (.p (.one (.b (.c false))))))
 (.ite (.eqS (.x 0) (.c [102,110]))
 (.ite (.eqS (.x 0) (.c [102,110]))
 (.ret (.p (.one (.b (.c true)))))
 (.ret (.p (.one (.b (.c false))))))
 (.ite (.eqS (.x 0) (.c [118,97,114]))
 (.ite (.eqS (.x 0) (.c [118,97,114]))
 (.ret (.p (.one (.b (.c true)))))
 (.ret (.p (.one (.b (.c false))))))
 (.ite (.eqS (.x 0) (.c [105,102]))
 (.ite (.eqS (.x 0) (.c [105,102]))
 (.ret (.p (.one (.b (.c true)))))
 (.ret (.p (.one (.b (.c false))))))
 (.ite (.eqS (.x 0) (.c [101,108,115,101]))
 (.ite (.eqS (.x 0) (.c [101,108,115,101]))
 (.ret (.p (.one (.b (.c true)))))
 (.ret (.p (.one (.b (.c false))))))
 (.ite (.eqS (.x 0) (.c [119,104,105,108,101]))
 (.ite (.eqS (.x 0) (.c [119,104,105,108,101]))
 (.ret (.p (.one (.b (.c true)))))
 (.ret (.p (.one (.b (.c false))))))
 (.ite (.eqS (.x 0) (.c [114,101,116,117,114,110]))
 (.ite (.eqS (.x 0) (.c [114,101,116,117,114,110]))
 (.ret (.p (.one (.b (.c true)))))
 (.ret (.p (.one (.b (.c false))))))
 (.ite (.eqS (.x 0) (.c [112,114,105,110,116]))
 (.ite (.eqS (.x 0) (.c [112,114,105,110,116]))
 (.ret (.p (.one (.b (.c true)))))
 (.ret (.p (.one (.b (.c false))))))
 (.ite (.eqS (.x 0) (.c [116,114,117,101]))
 (.ite (.eqS (.x 0) (.c [116,114,117,101]))
 (.ret (.p (.one (.b (.c true)))))
 (.ret (.p (.one (.b (.c false))))))
 (.ite (.eqS (.x 0) (.c [102,97,108,115,101]))
 (.ite (.eqS (.x 0) (.c [102,97,108,115,101]))
 (.ret (.p (.one (.b (.c true)))))
 (.ret (.p (.one (.b (.c false))))))
 (.ite (.eqS (.x 0) (.c [110,105,108]))
 (.ite (.eqS (.x 0) (.c [110,105,108]))
 (.ret (.p (.one (.b (.c true)))))
 (.ret (.p (.one (.b (.c false))))))
 (.ite (.eqS (.x 0) (.c [109,97,107,101]))
 (.ite (.eqS (.x 0) (.c [109,97,107,101]))
 (.ret (.p (.one (.b (.c true)))))
 (.ret (.p (.one (.b (.c false))))))
 (.ite (.eqS (.x 0) (.c [105,110,116]))
 (.ite (.eqS (.x 0) (.c [105,110,116]))
 (.ret (.p (.one (.b (.c true)))))
 (.ret (.p (.one (.b (.c false))))))
 (.ite (.eqS (.x 0) (.c [98,111,111,108]))
 (.ite (.eqS (.x 0) (.c [98,111,111,108]))
 (.ret (.p (.one (.b (.c true)))))
 (.ret (.p (.one (.b (.c false))))))
 (.ite (.eqS (.x 0) (.c [115,116,114]))
 (.ite (.eqS (.x 0) (.c [115,116,114]))
 (.ret (.p (.one (.b (.c true)))))
 (.ret (.p (.one (.b (.c false))))))
 (.ite (.eqS (.x 0) (.c [99,111,109,112]))
 (.ret (.p (.one (.b (.c true)))))
 (.ret (.p (.one (.b (.c false)))))))))))))))))))))
theorem TB:df ⟨true,[]⟩ Tryz.prog (fun l=>([]:List dL).getD l ⟨[],[],[]⟩) Tryz.f157=Ey:=by kernel_rfl
theorem Xj:aX Tryz.prog .zero Tryz.f157.params.toList=some ([.S 0],⟨0,0,1,0,0,0⟩):=by kernel_rfl
def Hz:Fm:=(.mk [(.s (.c [114,101,99])),(.s (.c [102,110])),(.s (.c [118,97,114])),(.s (.c [105,102])),(.s (.c [101,108,115,101])),(.s (.c [119,104,105,108,101])),(.s (.c [114,101,116,117,114,110])),(.s (.c [112,114,105,110,116])),(.s (.c [116,114,117,101])),(.s (.c [102,97,108,115,101])),(.s (.c [110,105,108])),(.s (.c [109,97,107,101])),(.s (.c [105,110,116])),(.s (.c [98,111,111,108])),(.s (.c [115,116,114])),(.s (.c [99,111,109,112]))] 9 16
 (.loop 0 ⟨[(.c 0)],[(.c false)],[],[],[],[]⟩
 (.ite (.lt (.x 0) (.cnt (.x 0)))
 (.N (.X (.x 0) (.x 0))
 (.O (.el (.x 0) (.x 0) 1 0) 1 [(.s (.x 1))] ⟨0,0,1,0,0,0⟩
 (.ite (.eqS (.x 1) (.x 0))
 (.ret (.p (.one (.b (.c true)))))
 (.N (.R (.add (.x 0) (.c 1)))
 (.again 0 ⟨0,0,1,0,1,0⟩ ⟨1,1,1,0,1,0⟩ ⟨[(.add (.x 0) (.c 1))],[(.x 0)],[],[],[],[]⟩)))))
 (.ret (.p (.one (.b (.c false))))))))
theorem P7:df ⟨true,[]⟩ Tryz.prog (fun l=>([⟨[2,8],[9,10,4,11,12,13,14,15,16,17],[]⟩]:List dL).getD l ⟨[],[],[]⟩) Tryz.f103=Hz:=by kernel_rfl
theorem UD:aX Tryz.prog .zero Tryz.f103.params.toList=some ([.S 0],⟨0,0,1,0,0,0⟩):=by kernel_rfl
def Po:List (List UInt8):=[[114,101,99],[102,110],[118,97,114],[105,102],[101,108,115,101],[119,104,105,108,101],[114,101,116,117,114,110],[112,114,105,110,116],[116,114,117,101],[102,97,108,115,101],[110,105,108],[109,97,107,101],[105,110,116],[98,111,111,108],[115,116,114],[99,111,109,112]]
def iF (s:List UInt8):Bool:=Po.contains s
set_option maxHeartbeats 4000000 in
def YF:Ct Tryz.prog where
 f:=157
 spec:=fun args h φ=>∃ s,args=[.string (B s)]∧φ (.bool (iF s)) h
 ok:=by
  rintro args h φ w ⟨s,rfl,hφ⟩ hH
  refine dD Tryz.func157 TB Xj [] φ ig eX ⟨[],[],[s],[],[],[],h,dY⟩ ⟨rfl,rfl,rfl,rfl,rfl,rfl⟩ af ?_ w hH rfl
  by_cases hs:s∈Po
  · have e:iF s=true:=by simpa[iF] using hs
    rw[e] at hφ
    simp only[Po,List.mem_cons,List.not_mem_nil,or_false] at hs
    rcases hs with rfl | rfl | rfl | rfl | rfl | rfl | rfl | rfl | rfl | rfl | rfl | rfl | rfl | rfl | rfl | rfl
    all_goals simp[Ey,go_sem,hφ]
  · have e:iF s=false:=by simpa[iF] using hs
    rw[e] at hφ
    simp only[Po,List.mem_cons,List.not_mem_nil,or_false,not_or] at hs
    obtain⟨h1,h2,h3,h4,h5,h6,h7,h8,h9,h10,h11,h12,h13,h14,h15,h16⟩:=hs
    simp[Ey,go_sem,hφ,h1,h2,h3,h4,h5,h6,h7,h8,h9,h10,h11,h12,h13,h14,h15,h16]
def vT:List Value:=Po.map fun x=>.string (B x)
set_option maxHeartbeats 4000000 in
def NP:Ct Tryz.prog where
 f:=103
 spec:=fun args h φ=>∃ s,args=[.string (B s)]∧∀ k,dm h k→φ (.bool (iF s)) k
 ok:=by
  rintro args h φ w ⟨s,rfl,hφ⟩ hH
  refine dD Tryz.func103 P7 UD [] φ (fun _ C=>∃ (b:Nat) (i:Nat) (y:Bool),h b=none∧C=⟨[i],[y],[s],[],[⟨some (b,0),16,16⟩],[],h.set b ⟨vT,9⟩,dY⟩∧i≤16∧∀ j,j<i→Po[j]?≠some s) (fun _ C=>(16 - C.i.getD 0 0).toNat) ⟨[],[],[s],[],[],[],h,dY⟩ ⟨rfl,rfl,rfl,rfl,rfl,rfl⟩ af ?_ w hH rfl
  rw[Hz,FN]
  intro b hb
  refine aQ ⟨b,0,false,hb,rfl,by omega,by omega⟩ ?_
  rintro i bb ss v ll pp hh M ⟨b,k,y,hb,hC,h3,h4⟩ hM
  cases hC
  have hM':M 0=((16:Int) - k).toNat:=hM
  have hk:=dF hb ⟨vT,9⟩
  by_cases hlt:k<16
  · have hlt':(k:Int)<16:=by omega
    have hx:k<Po.length:=hlt
    have hget:(vT.drop k).take 1=[.string (B Po[k])]:=by
     rw[List.drop_eq_getElem_cons (by simpa[vT] using hx)]
     simp[vT]
    have hwl:vT.length=16:=rfl
    by_cases he:Po[k]=s
    · have e:iF s=true:=by rw[← he];simp[iF]
      have:=hφ _ hk
      rw[e] at this
      simp[go_sem,hlt',hget,hwl,he,this]
      omega
    · have hne:∀ j,j<k+1→Po[j]?≠some s:=fun j hj=>by
       by_cases hjk:j=k
       · subst hjk;rw[List.getElem?_eq_getElem hx];simpa using he
       · exact h4 j (by omega)
      simp[go_sem,hlt',hget,hwl,he]
      refine⟨by omega,by omega,by omega,⟨b,hb,k+1,by cases y<;>simp,by omega,by simpa using hne⟩,by omega⟩
  · have hge:¬ ((k:Int)<16):=by omega
    have e:iF s=false:=by
     cases hq:iF s
     · rfl
     · exfalso
       have hm:s∈Po:=by simpa[iF] using hq
       obtain⟨j,hj⟩:=List.getElem?_of_mem hm
       have hjl:j<16:=(List.getElem?_eq_some_iff.1 hj).1
       exact h4 j (by omega) hj
    have:=hφ _ hk
    rw[e] at this
    simp[go_sem,hge,this]
def VN (k l c n:Int) (x:List UInt8):Value:=.agg #[.int .u8 k,.int .i64 l,.int .i64 c,.int .i64 n,.string (B x)]
def wF (b:Int) (x:List UInt8):Int:=if nZ b=2 then 2 else if iF x then 6 else 1
end Go.Proofs.YtgpanefhaiohnaaGreatDoor
namespace Go.Proofs.YtgpanefhaiohnaaGreatDoor
open Go.RowKit
def strip:List UInt8→List UInt8
 | a::c::t=>if a.toNat=48 then strip (c::t) else a::c::t
 | l=>l
def Y0 (k most:Int) (d:List UInt8) (e:Nat):Int×Int×Int×Nat:=
 if (pv (strip d)).2=0∧(pv (strip d)).1≤most then (0,k,(pv (strip d)).1,e) else (14,0,0,0)
def nm (s:List UInt8) (i:Nat):Int×Int×Int×Nat:=
 if rn inB s (i+rn YH s i)=0 then Y0 3 9223372036854775807 (sub s i (i+rn YH s i)) (i+rn YH s i)
 else if rn inB s (i+rn YH s i)=1∧bt s (i+rn YH s i)=105 then Y0 4 8388607 (sub s i (i+rn YH s i)) (i+rn YH s i+1)
 else (4,0,0,0)
end Go.Proofs.YtgpanefhaiohnaaGreatDoor
namespace Go.Proofs.YtgpanefhaiohnaaGreatDoor
open Go.RowKit
attribute [local go_sem] aZ aY ag ai ak aN au aC di jZ pq nY aj says_again fG BE.den IE.den SE.den LE.den AE.den CE.den PE.den VE.den KV.val dw.den dw.cnt iM dU iY allL Ctx.push Ctx.heap Ctx.cut Ctx.bare Ctx.mark Inc.blank List.getD_cons_zero List.getD_cons_succ List.cons_append List.nil_append List.append_nil List.map_cons List.map_nil List.replicate_zero List.replicate_succ aB bQ bu bG bn bY cO aU aT aV bF bD aF aO aH aA ax aS aI bW af and_assoc
def Gh:List (List UInt8):=[[38,38],[124,124],[61,61],[33,61],[60,61],[62,61],[43],[45],[42],[47],[37],[60],[62],[33],[61],[40],[41],[123],[125],[91],[93],[44],[59],[58],[46]]
def sg (rest:List UInt8):List UInt8:=(Gh.find? fun p=>p.isPrefixOf rest).getD []
def strs (l:List (List UInt8)):List Value:=l.map fun x=>.string (B x)
theorem Ld {h:Hp} {b:Nat} {ps:List (List UInt8)} {T:TypeId} (hb:h b=some ⟨strs ps,T⟩) {k:Nat} {x:List UInt8} (hx:ps[k]? = some x):hread h (some (b,k)) 1=some [.string (B x)]:=by
 have hlt:=(List.getElem?_eq_some_iff.1 hx).1
 have hg:=(List.getElem?_eq_some_iff.1 hx).2
 rw[dN hb,if_pos (by simp[strs];omega)]
 have:(strs ps).drop k=.string (B ps[k])::(strs ps).drop (k+1):=by
  rw[List.drop_eq_getElem_cons (by simp[strs];omega)]
  simp[strs]
 simp only[this,hg]
 rfl
end Go.Proofs.YtgpanefhaiohnaaGreatDoor
namespace Go.Proofs.YtgpanefhaiohnaaGreatDoor
open Go.RowKit
def hx (b:Int):Int:=if 48≤b∧b≤57 then b - 48 else if 97≤b∧b≤102 then b - 87 else if 65≤b∧b≤70 then b - 55 else -1
def ub (n:Int):UInt8:=UInt8.ofNat n.toNat
def rdA:Nat→List UInt8→Nat→List UInt8→Option (List UInt8×Nat)
 | 0,_,_,_=>none
 | n+1,s,i,acc=>
   if s.length≤i∨bt s i<32∨126<bt s i then none
   else if bt s i=34 then some (acc,i+1)
   else if bt s i≠92 then rdA n s (i+1) (acc++[ub (bt s i)])
   else if s.length≤i+1 then none
   else if bt s (i+1)=34∨bt s (i+1)=92 then rdA n s (i+2) (acc++[ub (bt s (i+1))])
   else if bt s (i+1)=110 then rdA n s (i+2) (acc++[10])
   else if bt s (i+1)=116 then rdA n s (i+2) (acc++[9])
   else if bt s (i+1)=120 then
    if i+3<s.length∧0≤hx (bt s (i+2))∧0≤hx (bt s (i+3)) then rdA n s (i+4) (acc++[ub (16*hx (bt s (i+2))+hx (bt s (i+3)))]) else none
   else none
def Y9 (s:List UInt8):Option (List UInt8×Nat):=if s.length=0∨bt s 0≠34 then none else rdA s.length s 1 []
theorem X9 {b:Int} (h:0≤hx b):32≤b∧b≤126:=by
 unfold hx at h;split at h
 · omega
 · split at h
   · omega
   · split at h<;>omega
theorem Jp:∀ (n:Nat) {s:List UInt8} {i:Nat} {acc t:List UInt8} {e:Nat},rdA n s i acc=some (t,e)→i<e∧e≤s.length∧∀ j,i≤j→j<e→bt s j≠10
 | 0,s,i,acc,t,e,h=>by cases h
 | n+1,s,i,acc,t,e,h=>by
   have two:∀ {a:Nat} {x:List UInt8},32≤bt s i→i<s.length→(∀ j,i<j→j<a→bt s j≠10)→i<a→rdA n s a x=some (t,e)→i<e∧e≤s.length∧∀ j,i≤j→j<e→bt s j≠10:=by
    intro a x h1 h2 h3 h4 h5
    obtain⟨r1,r2,r3⟩:=Jp n h5
    refine⟨by omega,r2,fun j j1 j2=>?_⟩
    rcases Nat.lt_or_ge j a with ha | ha
    · by_cases hj:j=i
      · subst hj;omega
      · exact h3 j (by omega) ha
    · exact r3 j ha j2
   rw[rdA] at h
   split at h
   · cases h
   · rename_i h0
     have h0':i<s.length∧32≤bt s i:=by omega
     split at h
     · cases h;exact⟨by omega,by omega,fun j j1 j2=>by rw[show j=i by omega];omega⟩
     · split at h
       · exact two h0'.2 h0'.1 (fun j j1 j2=>by omega) (by omega) h
       · split at h
         · cases h
         · split at h
           · exact two h0'.2 h0'.1 (fun j j1 j2=>by rw[show j=i+1 by omega];omega) (by omega) h
           · split at h
             · exact two h0'.2 h0'.1 (fun j j1 j2=>by rw[show j=i+1 by omega];omega) (by omega) h
             · split at h
               · exact two h0'.2 h0'.1 (fun j j1 j2=>by rw[show j=i+1 by omega];omega) (by omega) h
               · split at h
                 · split at h
                   · rename_i hx3
                     have e2:=X9 hx3.2.1
                     have e3:=X9 hx3.2.2
                     exact two h0'.2 h0'.1 (fun j j1 j2=>by
                      rcases (by omega:j=i+1∨j=i+2∨j=i+3) with rfl | rfl | rfl<;>omega) (by omega) h
                   · cases h
                 · cases h
theorem UN {s t:List UInt8} {e:Nat} (h:Y9 s=some (t,e)):1<e∧e≤s.length∧∀ j,j<e→bt s j≠10:=by
 unfold Y9 at h
 split at h
 · cases h
 · obtain⟨r1,r2,r3⟩:=Jp _ h
   refine⟨r1,r2,fun j hj=>?_⟩
   by_cases h0:j=0
   · subst h0;omega
   · exact r3 j (by omega) hj
structure Tk1 where
 f:Int
 k:Int
 x:List UInt8
 n:Int
 e:Nat
def one (s:List UInt8) (i:Nat):Tk1:=
 if nZ (bt s i)=1∨nZ (bt s i)=2 then ⟨0,wF (bt s i) (sub s i (i+rn inB s i)),sub s i (i+rn inB s i),0,i+rn inB s i⟩
 else if nZ (bt s i)=3 then ⟨(nm s i).1,(nm s i).2.1,[],(nm s i).2.2.1,(nm s i).2.2.2⟩
 else if bt s i=34 then (match Y9 (s.drop i) with | some (t,n)=>⟨0,5,t,0,i+n⟩ | none=>⟨4,0,[],0,0⟩)
 else if sg (s.drop i)=[] then ⟨4,0,[],0,0⟩ else ⟨0,7,sg (s.drop i),0,i+(sg (s.drop i)).length⟩
structure Tok where
 k:Int
 l:Int
 c:Int
 n:Int
 x:List UInt8
 deriving DecidableEq
def Tok.cs (t:Tok):List Value:=[.int .u8 t.k,.int .i64 t.l,.int .i64 t.c,.int .i64 t.n,.string (B t.x)]
def O9 (l:List Tok):List Value:=l.flatMap Tok.cs
theorem Pe (l:List Tok):(O9 l).length=l.length*5:=by
 induction l with
 | nil=>rfl
 | cons a l ih=>rw[O9,List.flatMap_cons,List.length_append,← O9,ih];simp[Tok.cs];omega
end Go.Proofs.YtgpanefhaiohnaaGreatDoor
