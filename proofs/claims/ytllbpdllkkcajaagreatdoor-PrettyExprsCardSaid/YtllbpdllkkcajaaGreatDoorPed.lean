/- hindcastlaw07: texts joined: TreA, TreE, TreG, TreH. -/
import Derived.Test.YtllbpdllkkcajaaGreatDoorPec
namespace Go.Proofs.YtllbpdllkkcajaaGreatDoor
open Go.RowKit
section
attribute [local go_sem] aY aX aA ak ax aF aT aJ au says_again
def Ns:Fm:=(.O (.pt 0 0) 1 [.U 5] ⟨1,0,0,0,0,0⟩
 (.load (.le (.x 5) (.x 0)) (.pt 1 0) 1 [.U 6] ⟨1,0,0,0,0,0⟩
 (.ret (.p (.one (.b (.and (.le (.x 5) (.x 0)) (.le (.x 0) (.x 6)))))))))
theorem Uu:jK ⟨true,[]⟩ Tryz.prog (fun l=>([]:List bG).getD l ⟨[],[],[]⟩) Tryz.f133 [.agg [.U 0,.J 1,.J 2,.J 3,.J 4,.s (.x 0)],.one (.adr (.pt 0 0)),.one (.adr (.pt 1 0))] ⟨5,0,1,0,0,2⟩=Ns:=by kernel_rfl
def Ui:Fm:=(.O (.pt 0 0) 1 [(.sl (.x 0))] ⟨0,0,0,0,1,0⟩
 (.loop 0 ⟨[(.c 0)],[(.c false)],[],[],[],[]⟩
 (.ite (.lt (.x 5) (.cnt (.x 0)))
 (.N (.X (.x 5) (.x 0))
 (.O (.el (.x 0) (.x 5) 1 0) 1 [.U 6] ⟨1,0,0,0,0,0⟩
 (.ite (.eqI (.x 0) (.x 6))
 (.ret (.p (.one (.b (.c true)))))
 (.N (.R (.add (.x 5) (.c 1)))
 (.again 0 ⟨5,0,1,0,1,1⟩ ⟨6,1,1,0,1,1⟩ ⟨[(.add (.x 5) (.c 1))],[(.x 0)],[],[],[],[]⟩)))))
 (.ret (.p (.one (.b (.c false))))))))
theorem XW:jK ⟨true,[]⟩ Tryz.prog (fun l=>([⟨[3,8],[9,10,11,5,12,13,14,15,16],[]⟩]:List bG).getD l ⟨[],[],[]⟩) Tryz.f86 [.agg [.U 0,.J 1,.J 2,.J 3,.J 4,.s (.x 0)],.one (.adr (.pt 0 0))] ⟨5,0,1,0,0,1⟩=Ui:=by kernel_rfl
def Ug:Fm:=(.new [.U 0] 5
 (.new [.U 1] 5
 (.ret (.p (.one (.clo 133 [0,1]))))))
theorem XT:aU ⟨true,[2,3]⟩ Tryz.prog (fun l=>([]:List bG).getD l ⟨[],[],[]⟩) Tryz.f90=Ug:=by kernel_rfl
theorem aai:az Tryz.prog .zero Tryz.f90.params.toList=some ([(.one (.U 0)),(.one (.U 1))],⟨2,0,0,0,0,0⟩):=by kernel_rfl
def Uo:Fm:=(.new [(.sl (.x 0))] 44
 (.ret (.p (.one (.clo 86 [0])))))
theorem X0:aU ⟨true,[]⟩ Tryz.prog (fun l=>([]:List bG).getD l ⟨[],[],[]⟩) Tryz.f52=Uo:=by kernel_rfl
theorem aan:az Tryz.prog .zero Tryz.f52.params.toList=some ([.L 0],⟨0,0,0,0,1,0⟩):=by kernel_rfl
def GY:Fm:=(.C 90 [(.one (.i .u8 (.c 15))),(.one (.i .u8 (.c 20)))] (.p (.one (.v 0))) ⟨0,0,0,1,0,0⟩
 (.C 1000001 [(.one (.v 0)),(.agg [.U 0,.J 1,.J 2,.J 3,.J 4,(.s (.x 0))])] (.p (.B 0)) ⟨0,1,0,0,0,0⟩
 (.ret (.p (.B 0)))))
theorem QC:aU ⟨true,[]⟩ Tryz.prog (fun l=>([]:List bG).getD l ⟨[],[],[]⟩) Tryz.f88=GY:=by kernel_rfl
theorem VZ:az Tryz.prog .zero Tryz.f88.params.toList=some ([(.agg [.U 0,.J 1,.J 2,.J 3,.J 4,(.s (.x 0))])],⟨5,0,1,0,0,0⟩):=by kernel_rfl
def F8:Fm:=(.C 90 [(.one (.i .u8 (.c 21))),(.one (.i .u8 (.c 32)))] (.p (.one (.v 0))) ⟨0,0,0,1,0,0⟩
 (.C 1000001 [(.one (.v 0)),(.agg [.U 0,.J 1,.J 2,.J 3,.J 4,(.s (.x 0))])] (.p (.B 0)) ⟨0,1,0,0,0,0⟩
 (.ret (.p (.B 0)))))
theorem PY:aU ⟨true,[]⟩ Tryz.prog (fun l=>([]:List bG).getD l ⟨[],[],[]⟩) Tryz.f92=F8:=by kernel_rfl
theorem Vs:az Tryz.prog .zero Tryz.f92.params.toList=some ([(.agg [.U 0,.J 1,.J 2,.J 3,.J 4,(.s (.x 0))])],⟨5,0,1,0,0,0⟩):=by kernel_rfl
def Bz:Fm:=(.ret (.p (.one (.b (.eqI (.x 0) (.c 6))))))
theorem JV:aU ⟨true,[]⟩ Tryz.prog (fun l=>([]:List bG).getD l ⟨[],[],[]⟩) Tryz.f132=Bz:=by kernel_rfl
theorem Rn:az Tryz.prog .zero Tryz.f132.params.toList=some ([(.agg [.U 0,.J 1,.J 2,.J 3,.J 4,(.s (.x 0))])],⟨5,0,1,0,0,0⟩):=by kernel_rfl
def Nu:Fm:=(.loop 0 ⟨[(.c 0)],[(.c false)],[],[],[],[]⟩
 (.ite (.lt (.x 5) (.cnt (.x 0)))
 (.N (.X (.x 5) (.x 0))
 (.O (.el (.x 0) (.x 5) 6 0) 6 [.U 6,.J 7,.J 8,.J 9,.J 10,(.s (.x 1))] ⟨5,0,1,0,0,0⟩
 (.C 1000001 [(.one (.v 0)),(.agg [.U 6,.J 7,.J 8,.J 9,.J 10,(.s (.x 1))])] (.p (.B 1)) ⟨0,1,0,0,0,0⟩
 (.ite (.not (.x 1))
 (.ret (.p (.one (.b (.c false)))))
 (.N (.R (.add (.x 5) (.c 1)))
 (.again 0 ⟨5,0,1,1,1,0⟩ ⟨6,1,1,1,1,0⟩ ⟨[(.add (.x 5) (.c 1))],[(.x 0)],[],[],[],[]⟩))))))
 (.ret (.p (.one (.b (.c true)))))))
theorem Ux:aU ⟨true,[]⟩ Tryz.prog (fun l=>([⟨[4,10],[11,12,13,6,14,15,16,17,18],[6]⟩]:List bG).getD l ⟨[],[],[]⟩) Tryz.f51=Nu:=by kernel_rfl
theorem Yq:az Tryz.prog .zero Tryz.f51.params.toList=some ([(.agg [.U 0,.J 1,.J 2,.J 3,.J 4,(.s (.x 0)),(.sl (.x 0))]),(.one (.v 0))],⟨5,0,1,1,1,0⟩):=by kernel_rfl
def Ny:Fm:=(.ite (.not (.eqI (.cnt (.x 0)) (.cnt (.x 1))))
 (.ret (.p (.one (.b (.c false)))))
 (.loop 0 ⟨[(.c 0)],[(.c false)],[],[],[],[]⟩
 (.ite (.lt (.x 5) (.cnt (.x 1)))
 (.N (.X (.x 5) (.x 1))
 (.O (.el (.x 1) (.x 5) 1 0) 1 [(.v 0)] ⟨0,0,0,1,0,0⟩
 (.N (.X (.x 5) (.x 0))
 (.O (.el (.x 0) (.x 5) 6 0) 6 [.U 6,.J 7,.J 8,.J 9,.J 10,(.s (.x 1))] ⟨5,0,1,0,0,0⟩
 (.C 1000001 [(.one (.v 0)),(.agg [.U 6,.J 7,.J 8,.J 9,.J 10,(.s (.x 1))])] (.p (.B 1)) ⟨0,1,0,0,0,0⟩
 (.ite (.not (.x 1))
 (.ret (.p (.one (.b (.c false)))))
 (.N (.R (.add (.x 5) (.c 1)))
 (.again 0 ⟨5,0,1,0,2,0⟩ ⟨6,1,1,0,2,0⟩ ⟨[(.add (.x 5) (.c 1))],[(.x 0)],[],[],[],[]⟩))))))))
 (.ret (.p (.one (.b (.c true))))))))
theorem Uz:aU ⟨true,[]⟩ Tryz.prog (fun l=>([⟨[4,15],[16,17,18,19,5,6,20,21,22,23,24,25,26,27,28],[]⟩]:List bG).getD l ⟨[],[],[]⟩) Tryz.f87=Ny:=by kernel_rfl
theorem Yt:az Tryz.prog .zero Tryz.f87.params.toList=some ([(.agg [.U 0,.J 1,.J 2,.J 3,.J 4,(.s (.x 0)),(.sl (.x 0))]),.L 1],⟨5,0,1,0,2,0⟩):=by kernel_rfl
structure Ng where
 k:Int
 l:Int
 c:Int
 z:Int
 n:Int
 x:List UInt8
 deriving DecidableEq
def Ng.cs (x:Ng):List Value:=[.int .u8 x.k,.int .i64 x.l,.int .i64 x.c,.int .i64 x.z,.int .i64 x.n,.string (B x.x)]
def Ng.v (x:Ng):Value:=.agg #[.int .u8 x.k,.int .i64 x.l,.int .i64 x.c,.int .i64 x.z,.int .i64 x.n,.string (B x.x)]
def lI (l:List Ng):List Value:=l.flatMap Ng.cs
theorem lJ (l:List Ng):(lI l).length=l.length*6:=by
 induction l with
 | nil=>rfl
 | cons a l ih=>rw[lI,List.flatMap_cons,List.length_append];show 6+(lI l).length=_;rw[ih,List.length_cons];omega
theorem yF (a:Ng) (l:List Ng):lI (a::l)=a.cs++lI l:=by rw[lI,List.flatMap_cons];rfl
theorem xg (a b:List Ng):lI (a++b)=lI a++lI b:=by simp[lI]
theorem eP {l:List Ng} {j:Nat} (hj:j<l.length):(lI l).drop (j*6)=l[j].cs++lI (l.drop (j+1)):=by
 induction l generalizing j with
 | nil=>simp at hj
 | cons a l ih=>
   cases j with
   | zero=>simp[yF]
   | succ j=>
     rw[yF,show (j+1)*6=a.cs.length+j*6 by simp[Ng.cs];omega,List.drop_append];have:(a.cs.drop (a.cs.length+j*6))=[]:=List.drop_eq_nil_of_le (by omega);rw[this,List.nil_append,Nat.add_sub_cancel_left];simpa using ih (by simpa using hj)
def Rows (h:Hp) (sl:bM) (cs:List Value) (sz:Nat):Prop:=cs.length=sl.n*sz/\(sl.n=0\/hread h sl.a (sl.n*sz)=some cs)
theorem Rows.le {h k:Hp} {sl:bM} {cs:List Value} {sz:Nat} (R:Rows h sl cs sz) (hl:bY h k):Rows k sl cs sz:=⟨R.1,R.2.imp id (H5 hl)⟩
theorem HY {h:Hp} {b o n:Nat} {cs:List Value} (hr:hread h (some (b,o)) n=some cs) {k m:Nat} (hk:k+m<=n):hread h (some (b,o+k)) m=some ((cs.drop k).take m):=by
 unfold hread at hr⊢;simp only at hr⊢;split at hr
 . rename_i x hx;split at hr
   . cases hr;rw[if_pos (by omega)];congr 1;rw[List.drop_take,List.take_take,List.drop_drop,Nat.min_eq_left (by omega)]
   . cases hr
 . cases hr
theorem Rows.nn {h:Hp} {sl:bM} {cs:List Value} {sz j:Nat} (R:Rows h sl cs sz) (hj:j<sl.n):∃ b o,sl.a=some (b,o):=by
 rcases R.2 with h0 | hr
 . omega
 . unfold hread at hr;cases ha:sl.a with
   | none=>rw[ha] at hr;cases hr
   | some q=>exact⟨q.1,q.2,rfl⟩
theorem Rows.read {h:Hp} {sl:bM} {cs:List Value} {sz j off m b o:Nat} (R:Rows h sl cs sz) (hj:j<sl.n) (hm:off+m<=sz) (ha:sl.a=some (b,o)):hread h (some (b,o+j*sz+off)) m=some ((cs.drop (j*sz+off)).take m):=by
 rcases R.2 with h0 | hr
 . omega
 . rw[ha] at hr;rw[Nat.add_assoc];refine HY hr ?_;have:j*sz+sz<=sl.n*sz:=by
    have:=Nat.mul_le_mul_right sz (show j+1<=sl.n by omega);rw[Nat.add_mul,Nat.one_mul] at this;exact this
   omega
theorem Rows.y7 {h:Hp} {sl:bM} {cs:List Value} {T:TypeId} {sz:Nat} (ho:dC h sl cs T sz):Rows h sl cs sz:=by
 rcases ho with ⟨rfl,rfl⟩ | ⟨b,o,h1,h2,h3,h4,h5,h6,h7⟩
 . exact⟨by simp,.inl rfl⟩
 . have hle:=Nat.mul_le_mul_right sz h5;refine⟨by rw[h7,List.length_take];omega,.inr ?_⟩;rw[h1,bI h2,if_pos (by omega),h7];rfl
def NG (h:Hp) (sl:bM) (l:List Ng):Prop:=Rows h sl (lI l) 6
theorem NG.n {h:Hp} {sl:bM} {l:List Ng} (R:NG h sl l):sl.n=l.length:=by
 have:=R.1;rw[lJ] at this;omega
theorem NG.le {h k:Hp} {sl:bM} {l:List Ng} (R:NG h sl l) (hl:bY h k):NG k sl l:=Rows.le R hl
theorem NG.node {h:Hp} {sl:bM} {l:List Ng} (R:NG h sl l) {j b o:Nat} (hj:j<l.length) (ha:sl.a=some (b,o)):hread h (some (b,o+j*6+0)) 6=some l[j].cs:=by
 have hn:=NG.n R;rw[Rows.read R (by omega) (by omega) ha,Nat.add_zero,eP hj];rfl
def Want (cs:List (Ct Tryz.prog)) (h:Hp) (v:Value) (p:Ng->Bool):Prop:=
 ∃ f cap,v=.func (.func f) #[] (List.toArray cap)/\nN Tryz.prog f=true/\f≠iM/\∀ (x:Ng) k φ,bY h k->φ (.bool (p x)) k->oK cs f (x.v::cap) k φ
theorem Want.le {cs:List (Ct Tryz.prog)} {h k:Hp} {v:Value} {p:Ng->Bool} (W:Want cs h v p) (hl:bY h k):Want cs k v p:=by
 obtain⟨f,cap,h1,h2,h3,h4⟩:=W;exact⟨f,cap,h1,h2,h3,fun x k' φ hk hφ=>h4 x k' φ (fun b o hb=>hk b o (hl b o hb)) hφ⟩
theorem Want.call {cs:List (Ct Tryz.prog)} {h:Hp} {v:Value} {p:Ng->Bool} (W:Want cs h v p) {k:Hp} (hl:bY h k) {x:Ng} {φ:Value->Hp->Prop} (hφ:φ (.bool (p x)) k):aG cs iM [v,x.v] k φ:=by
 obtain⟨f,cap,rfl,h2,h3,h4⟩:=W;unfold aG;rw[if_pos rfl];exact⟨[x.v],f,cap,rfl,h2,h3,h4 x k φ hl hφ⟩
def sD (a b:Int) (x:Ng):Bool:=decide (a<=x.k)&&decide (x.k<=b)
def lY:Ct Tryz.prog where
 f:=133
 spec:=fun args h φ=>∃ x p q a b T U,args=[Ng.v x,.pointer (some ⟨p,0,none⟩),.pointer (some ⟨q,0,none⟩)]/\h p=some ⟨[.int .u8 a],T⟩/\h q=some ⟨[.int .u8 b],U⟩/\φ (.bool (sD a b x)) h
 ok:=by
  rintro args h φ w ⟨x,p,q,a,b,T,U,rfl,hp,hq,hφ⟩ hH;refine oU Tryz.func133 Uu [] φ bJ aV ⟨[x.k,x.l,x.c,x.z,x.n],[],[x.x],[],[],[some (p,0),some (q,0)],h,cu⟩ ⟨rfl,rfl,rfl,rfl,rfl,rfl⟩ af ?_ w hH rfl;unfold sD at hφ;rw[<- ae];unfold Ns;by_cases h1:a<=x.k
  . iterate 6 (try simp only[ae];try simp[go_sem,bI hp,bI hq,h1])
    simpa[h1,leB] using hφ
  . iterate 6 (try simp only[ae];try simp[go_sem,bI hp,h1])
    simpa[h1,leB] using hφ
def xQ:Ct Tryz.prog where
 f:=132
 spec:=fun args h φ=>∃ x,args=[Ng.v x]/\φ (.bool (decide (x.k=6))) h
 ok:=by
  rintro args h φ w ⟨x,rfl,hφ⟩ hH;refine aZ Tryz.func132 JV Rn [] φ bJ aV ⟨[x.k,x.l,x.c,x.z,x.n],[],[x.x],[],[],[],h,cu⟩ ⟨rfl,rfl,rfl,rfl,rfl,rfl⟩ af ?_ w hH rfl;rw[<- ae];unfold Bz
  iterate 3 (try simp only[ae];try simp[go_sem])
  exact hφ
def Kw (l:List Int):List Value:=l.map fun k=>.int .u8 k
theorem tC (l:List Int):(Kw l).length=l.length:=by simp[Kw]
set_option maxHeartbeats 2000000 in
def aaN:Ct Tryz.prog where
 f:=86
 spec:=fun args h φ=>∃ x p sl l T,args=[Ng.v x,.pointer (some ⟨p,0,none⟩)]/\h p=some ⟨[bM.val sl],T⟩/\Rows h sl (Kw l) 1/\l.length<=1000/\φ (.bool (l.contains x.k)) h
 ok:=by
  rintro args h φ w ⟨x,p,sl,l,T,rfl,hp,R,hl,hφ⟩ hH;have hn:sl.n=l.length:=by have:=R.1;rw[tC] at this;omega
  refine oU Tryz.func86 XW [] φ (fun _ C=>∃ j:Nat,C=⟨[x.k,x.l,x.c,x.z,x.n,j],[false],[x.x],[],[sl],[some (p,0)],h,cu⟩/\j<=l.length/\l.contains x.k=(l.drop j).contains x.k) (fun _ C=>(l.length - C.i.getD 5 0).toNat)
   ⟨[x.k,x.l,x.c,x.z,x.n],[],[x.x],[],[],[some (p,0)],h,cu⟩ ⟨rfl,rfl,rfl,rfl,rfl,rfl⟩ af ?_ w hH rfl
  generalize hE:(⟨aG _,_,_,_⟩:Env)=E;have ep:E.post=φ:=by rw[<- hE]
  have ei:E.inv=(fun _ C=>∃ j:Nat,C=⟨[x.k,x.l,x.c,x.z,x.n,j],[false],[x.x],[],[sl],[some (p,0)],h,cu⟩/\j<=l.length/\l.contains x.k=(l.drop j).contains x.k):=by rw[<- hE]
  have em:E.meas=(fun _ C=>((l.length:Int) - C.i.getD 5 0).toNat):=by rw[<- hE]
  clear hE;unfold Ui;rw[aT,if_pos (by rfl)];refine (bn _ _).2 ⟨⟨[],[],[],[],[sl],[]⟩,rfl,af,by simp[go_sem,bI hp],?_⟩;rw[ae];refine bH ?_ ?_
  . rw[ei];exact⟨0,rfl,by omega,rfl⟩
  rw[ei,em];rintro i bb ss v ll pp hh M ⟨j,hC,h3,h4⟩ hM;cases hC;have hM':M 0=((l.length:Int) - j).toNat:=hM;rw[h4] at hφ;by_cases hj:j<l.length
  . obtain⟨b,o,ha⟩:=R.nn (j:=j) (by omega);have hrd:=Rows.read (off:=0) (m:=1) R (j:=j) (by omega) (by omega) ha;have hz:(j:Int)<sl.n:=by omega
    have e:(List.drop (j*1+0) (Kw l)).take 1=[.int .u8 l[j]]:=by
     rw[Nat.mul_one,Nat.add_zero,List.drop_eq_getElem_cons (by rw[tC];exact hj)];simp[Kw]
    rw[e] at hrd;rw[List.drop_eq_getElem_cons hj] at h4 hφ;generalize l[j]=y at *;rw[ak,if_pos (by simpa[go_sem] using hz),ae,aA];refine⟨by simp[go_sem,hz,ha],?_⟩;refine rL ⟨[y],[],[],[],[],[]⟩ rfl af (by simpa[go_sem,ha] using hrd) ?_;by_cases hx:x.k=y
    . rw[ah,if_pos (by simpa[go_sem] using hx),ae,au,ep];simpa[go_sem,hx] using hφ
    . rw[ah,if_neg (by simpa[go_sem] using hx),ae,aA];refine⟨by simp[go_sem];omega,?_⟩;rw[ae];simp[go_sem,ei,em];exact⟨⟨j+1,by simp,by omega,by simpa[hx] using h4⟩,by omega⟩
  . have hz:¬ ((j:Int)<sl.n):=by omega
    rw[List.drop_eq_nil_of_le (by omega)] at hφ;rw[ak,if_neg (by simpa[go_sem] using hz),ae,au,ep];simpa[go_sem] using hφ
def qP:Ct Tryz.prog where
 f:=90
 spec:=fun args h φ=>∃ a b,args=[.int .u8 a,.int .u8 b]/\∀ p q k,bY h k->k p=some ⟨[.int .u8 a],5⟩->k q=some ⟨[.int .u8 b],5⟩->φ (.func (.func 133) #[] #[.pointer (some ⟨p,0,none⟩),.pointer (some ⟨q,0,none⟩)]) k
 ok:=by
  rintro args h φ w ⟨a,b,rfl,hφ⟩ hH;refine aZ Tryz.func90 XT aai [] φ (bJ) (aV) ⟨[a,b],[],[],[],[],[],h,cu⟩ ⟨rfl,rfl,rfl,rfl,rfl,rfl⟩ af ?_ w hH rfl;generalize hE:(⟨aG _,_,_,_⟩:Env)=E;have ep:E.post=φ:=by rw[<- hE]
  clear hE;unfold Ug;rw[dN];intro p hp;rw[ae,dN];intro q hq;rw[aj,ep];have hp':h p=none:=hp;have hq':(h.set p ⟨[.int .u8 a],5⟩) q=none:=hq;have hne:q≠p:=fun e=>by rw[e,ay] at hq';cases hq'
  refine hφ p q _ (fun c o hc=>?_) ?_ ?_
  . show ((h.set p _).set q _) c=_;rw[bf _ (fun e=>by rw[e] at hc;rw[bf _ hne,hc] at hq';cases hq'),bf _ (fun e=>by rw[e,hp'] at hc;cases hc)];exact hc
  . show ((h.set p _).set q _) p=_;rw[bf _ hne.symm,ay];rfl
  . show ((h.set p _).set q _) q=_;rw[ay];rfl
def vJ:Ct Tryz.prog where
 f:=52
 spec:=fun args h φ=>∃ sl,args=[bM.val sl]/\∀ p k T,bY h k->k p=some ⟨[bM.val sl],T⟩->φ (.func (.func 86) #[] #[.pointer (some ⟨p,0,none⟩)]) k
 ok:=by
  rintro args h φ w ⟨sl,rfl,hφ⟩ hH;refine aZ Tryz.func52 X0 aan [] φ (bJ) (aV) ⟨[],[],[],[],[sl],[],h,cu⟩ ⟨rfl,rfl,rfl,rfl,rfl,rfl⟩ af ?_ w hH rfl;generalize hE:(⟨aG _,_,_,_⟩:Env)=E;have ep:E.post=φ:=by rw[<- hE]
  clear hE;unfold Uo;rw[dN];intro p hp;rw[aj,ep];have hp':h p=none:=hp;refine hφ p _ _ (fun c o hc=>?_) (ay _ _ _);show (h.set p _) c=_;rw[bf _ (fun e=>by rw[e,hp'] at hc;cases hc)];exact hc
theorem Fh {cs:List (Ct Tryz.prog)} (hc:oK cs 133=lY.spec) {p q:Nat} {a b:Int} {k:Hp} (h1:k p=some ⟨[.int .u8 a],5⟩) (h2:k q=some ⟨[.int .u8 b],5⟩) {x:Ng} {φ:Value->Hp->Prop} (hφ:φ (.bool (sD a b x)) k):
 aG cs iM [.func (.func 133) #[] #[.pointer (some ⟨p,0,none⟩),.pointer (some ⟨q,0,none⟩)],x.v] k φ:=by
 unfold aG;rw[if_pos rfl];refine⟨[x.v],_,[.pointer (some ⟨p,0,none⟩),.pointer (some ⟨q,0,none⟩)],rfl,by kernel_rfl,by decide,?_⟩;rw[hc];exact⟨x,p,q,a,b,_,_,rfl,h1,h2,hφ⟩
def DD:Ct Tryz.prog where
 f:=88
 spec:=fun args h φ=>∃ x,args=[Ng.v x]/\φ (.bool (sD 15 20 x)) h
 ok:=by
  rintro args h φ w ⟨x,rfl,hφ⟩ hH;refine bQ (aZ Tryz.func88 QC VZ [qP,lY] (fun v k=>∃ k',bY k' k/\φ v k') bJ aV ⟨[x.k,x.l,x.c,x.z,x.n],[],[x.x],[],[],[],h,cu⟩ ⟨rfl,rfl,rfl,rfl,rfl,rfl⟩ af ?_ w hH rfl);have hs:oK [qP,lY] 133=lY.spec:=rfl;generalize hE:(⟨aG _,_,_,_⟩:Env)=E;have s1:E.spec 90=qP.spec:=by rw[<- hE];rfl
  have s2:E.spec 1000001=aG [qP,lY] iM:=by rw[<- hE];rfl
  have ep:E.post=(fun v k=>∃ k',bY k' k/\φ v k'):=by rw[<- hE]
  clear hE;unfold GY;rw[ax,if_pos (by rfl),s1];refine⟨15,20,rfl,fun p q k hk h1 h2=>?_⟩;refine⟨fun h=>(by cases h),(bn _ _).2 ⟨⟨[],[],[],[.func (.func 133) #[] #[.pointer (some ⟨p,0,none⟩),.pointer (some ⟨q,0,none⟩)]],[],[]⟩,rfl,by intro u hu;simp at hu;subst hu;rfl,rfl,?_⟩⟩;rw[ai,s2];refine Fh (x:=x) hs h1 h2 ?_;refine rR ⟨[],[sD 15 20 x],[],[],[],[]⟩ rfl af rfl ?_;rw[aj,ep];exact⟨h,hk,hφ⟩
def GZ:Fm:=(.N (.R (.add (.x 0) (.c 1)))
 (.loop 0 ⟨[(.add (.x 0) (.c 1))],[],[],[],[.nil],[]⟩
 (.N (.X (.x 0) (.x 0))
 (.N (.nns (.x 0))
 (.O (.el (.x 0) (.x 0) 6 3) 1 [.J 2] ⟨1,0,0,0,0,0⟩
 (.N (.R (.add (.x 0) (.x 2)))
 (.ite (.le (.x 1) (.add (.x 0) (.x 2)))
 (.mk [.J 1] 3 1
 (.app (.x 1) (.x 2) 1 8 3
 (.N (.X (.x 1) (.x 0))
 (.N (.nns (.x 0))
 (.O (.el (.x 0) (.x 1) 6 3) 1 [.J 3] ⟨1,0,0,0,0,0⟩
 (.N (.R (.add (.c 1) (.x 3)))
 (.N (.R (.add (.x 1) (.add (.c 1) (.x 3))))
 (.again 0 ⟨1,0,0,0,1,0⟩ ⟨2,0,0,0,2,0⟩ ⟨[(.add (.x 1) (.add (.c 1) (.x 3)))],[],[],[],[(.x 3)],[]⟩))))))))
 (.ret (.p (.L 1))))))))))
theorem QE:aU ⟨true,[]⟩ Tryz.prog (fun l=>([⟨[5,6],[9,10,11,12,13,14,15,16,17,26,27,28,29,18,19,20,21,22,23,24,25],[]⟩]:List bG).getD l ⟨[],[],[]⟩) Tryz.f50=GZ:=by kernel_rfl
theorem V3:az Tryz.prog .zero Tryz.f50.params.toList=some ([.L 0,.J 0],⟨1,0,0,0,1,0⟩):=by kernel_rfl
def ku (l:List Int):List Value:=l.map fun k=>.int .i64 k
theorem NV (l:List Int):(ku l).length=l.length:=by simp[ku]
theorem tq (a b:List Int):ku (a++b)=ku a++ku b:=by simp[ku]
def iq (l:List Ng) (stop:Int):Nat->Int->Option (List Int)
 | 0,k=>if k<=stop then none else some []
 | n+1,k=>if k<=stop then (if 0<=k/\k<l.length/\0<=(l.getD k.toNat ⟨0,0,0,0,0,[]⟩).z/\(l.getD k.toNat ⟨0,0,0,0,0,[]⟩).z<=l.length then (iq l stop n (k+(1+(l.getD k.toNat ⟨0,0,0,0,0,[]⟩).z))).map (k::·) else none) else some []
theorem uM {h k:Hp} {s:bM} {xs:List Value} {ty:TypeId} {sz:Nat} (ho:dC h s xs ty sz) (hl:bY h k):dC k s xs ty sz:=by
 rcases ho with h0 | ⟨b,o,h1,h2,h3⟩
 . exact .inl h0
 . exact .inr ⟨b,o,h1,hl _ _ h2,h3⟩
def U2 (h:Hp) (sl:bM) (l:List Ng) (at_:Nat) (z:Int) (fuel:Nat) (ks:List Int) (_:Nat) (C:Ctx):Prop:=
 ∃ (j:Nat) (k:Int) (acc ks':List Int) (out:bM) (hh:Hp),C=⟨[at_,k],[],[],[],[sl,out],[],hh,cu⟩/\bY h hh/\dC hh out (ku acc) 3 1/\out.n=acc.length/\(∀ y,out.a=some y->h y.1=none)/\iq l (at_+z) j k=some ks'/\ks=acc++ks'/\acc.length+j=fuel/\-1<=k/\k<=3000000
def rest (_l:List Ng) (at_:Nat) (z:Int) (C:Ctx):Nat:=((at_:Int)+z+1 - C.i.getD 1 0).toNat
set_option maxHeartbeats 4000000 in
def TD:Ct Tryz.prog where
 f:=50
 spec:=fun args h φ=>∃ sl l at_ z fuel ks,args=[bM.val sl,.int .i64 (at_:Nat)]/\NG h sl l/\l.length<=1000000/\fuel<=1000000/\(∃ x:Ng,l[at_]? = some x/\x.z=z)/\0<=z/\z<=l.length/\iq l (at_+z) fuel (at_+1)=some ks/\
  ∀ sl' k,bY h k->dC k sl' (ku ks) 3 1->sl'.n=ks.length->φ sl'.val k
 ok:=by
  rintro args h φ w ⟨sl,l,at_,z,fuel,ks,rfl,R,hl,hf,⟨x,hx,rfl⟩,z0,z1,hk,hφ⟩ hH;have hn:=NG.n R;obtain⟨hat,hx2⟩:=List.getElem?_eq_some_iff.1 hx;refine aZ Tryz.func50 QE V3 [] φ (U2 h sl l at_ x.z fuel ks) (fun _ C=>rest l at_ x.z C) ⟨[(at_:Int)],[],[],[],[sl],[],h,cu⟩ ⟨rfl,rfl,rfl,rfl,rfl,rfl⟩ af ?_ w hH rfl;generalize hE:(⟨aG _,_,_,_⟩:Env)=E;have ep:E.post=φ:=by rw[<- hE]
  have ei:E.inv=(U2 h sl l at_ x.z fuel ks):=by rw[<- hE]
  have em:E.meas=(fun _ C=>rest l at_ x.z C):=by rw[<- hE]
  clear hE;unfold GZ;rw[aA];refine⟨by simp[go_sem];omega,?_⟩;rw[ae];refine bH ?_ ?_
  . rw[ei];exact⟨fuel,(at_:Int)+1,[],ks,⟨none,0,0⟩,h,rfl,fun _ _ h=>h,.inl ⟨rfl,rfl⟩,rfl,fun y hy=>(by cases hy),hk,rfl,Nat.zero_add _,by omega,by omega⟩
  rw[ei,em];rintro i bb ss v ll pp hh M ⟨j,k,acc,ks',out,hh',hC,hle,ho,hon,hfr,hkp,hks,hj,hk0,hk1⟩ hM;cases hC;have hM':M 0=((at_:Int)+x.z+1 - k).toNat:=hM;have R':=NG.le R hle;obtain⟨b,o,ha⟩:=Rows.nn R' (j:=at_) (by omega);have rz:=Rows.read (off:=3) (m:=1) R' (j:=at_) (by omega) (by omega) ha;rw[show at_*6+3=at_*6+3 from rfl,<- List.drop_drop,eP (by omega),hx2] at rz;rw[aA];refine⟨by simp[go_sem,ha];omega,?_⟩;rw[ag];refine⟨by simp[go_sem,ha],?_⟩;refine rL ⟨[x.z],[],[],[],[],[]⟩ rfl af (by simpa[go_sem,ha,Ng.cs] using rz) ?_;rw[ag];refine⟨by simp[go_sem];omega,?_⟩;by_cases hks2:k<=at_+x.z;rotate_left
  . rw[ah,if_neg (by simpa[go_sem] using hks2),ae,au,ep];have:ks'=[]:=by
     cases j with
     | zero=>rw[iq,if_neg hks2] at hkp;cases hkp;rfl
     | succ j=>rw[iq,if_neg hks2] at hkp;cases hkp;rfl
    subst this;rw[List.append_nil] at hks;subst hks;exact hφ out hh hle ho hon
  cases j with
  | zero=>rw[iq,if_pos hks2] at hkp;cases hkp
  | succ j=>
    rw[iq,if_pos hks2] at hkp;split at hkp;rotate_left
    . cases hkp
    rename_i hb;obtain⟨b0,b1,b2,b3⟩:=hb;obtain⟨ks2,hk2,rfl⟩:=Option.map_eq_some_iff.1 hkp;obtain⟨kn,rfl⟩:∃ kn:Nat,k=kn:=⟨k.toNat,by omega⟩;have hkl:kn<l.length:=by omega
    have hy:l.getD ((kn:Int)).toNat ⟨0,0,0,0,0,[]⟩=l[kn]:=by simp[List.getD_eq_getElem?_getD,hkl]
    rw[hy] at hk2 b2 b3;rw[ah,if_pos (by simpa[go_sem] using hks2),ae,aW];intro bb hbb;have hbb':hh bb=none:=hbb;rw[ae,bT];have hle2:=dU hbb' ⟨[Value.int .i64 (kn:Int)],3⟩;refine⟨ku acc,ku [(kn:Int)],uM ho hle2,.inr ⟨by simp[go_sem],?_⟩,?_,?_,?_,?_⟩
    . simp[go_sem,ku]
    . intro u hu;simp[ku] at hu;subst hu;rfl
    . show out.n+1<=maxLen;unfold maxLen;omega
    . show (out.n+1)*8<=_;omega
    intro s' k' g1 g2 g3 g4;have g2':s'.n=out.n+1:=g2;have hle3:bY h k':=fun c oo hc=>g4 c oo (fun y hy e=>by
     have:=hfr y hy;rw[e,hc] at this;cases this) (hle2 _ _ (hle _ _ hc))
    have R3:=NG.le R hle3;have rk:=Rows.read (off:=3) (m:=1) R3 (j:=kn) (by omega) (by omega) ha;rw[<- List.drop_drop,eP (by omega)] at rk;generalize l[kn]=y at *;rw[aA];refine⟨by simp[go_sem,ha];omega,?_⟩;rw[ag];refine⟨by simp[go_sem,ha],?_⟩;refine rL ⟨[y.z],[],[],[],[],[]⟩ rfl af (by simpa[go_sem,ha,Ng.cs] using rk) ?_;rw[ag];refine⟨by simp[go_sem];omega,?_⟩;rw[ag];refine⟨by simp[go_sem];omega,?_⟩;rw[ae,says_again,ei,em];refine⟨?_,?_⟩
    . refine⟨j,(kn:Int)+(1+y.z),acc++[(kn:Int)],ks2,s',k',rfl,hle3,by rw[tq];exact g1,by rw[g2',hon];simp,fun q hq=>?_,hk2,by rw[hks];simp,by simp;omega,by omega,by omega⟩;rcases g3 q hq with ⟨q2,hq2,e⟩ | hn2
      . rw[<- e];exact hfr q2 hq2
      . cases hh2:h q.1 with
        | none=>rfl
        | some oo=>
          have:(hh.set bb ⟨[Value.int .i64 (kn:Int)],3⟩) q.1=none:=hn2;rw[hle2 _ _ (hle _ _ hh2)] at this;cases this
    . show (((at_:Int)+x.z+1 - ((kn:Int)+(1+y.z))).toNat)<M 0;omega
def BH:Fm:=(.N (.R (.add (.x 0) (.c 1)))
 (.loop 0 ⟨[(.add (.x 0) (.c 1))],[],[],[],[.nil],[]⟩
 (.Z 0
 (.Z 0
 (.O (.pt 0 0) 1 [(.sl (.x 1))] ⟨0,0,0,0,1,0⟩
 (.N (.X (.x 0) (.x 1))
 (.N (.nns (.x 1))
 (.O (.el (.x 1) (.x 0) 6 3) 1 [.J 2] ⟨1,0,0,0,0,0⟩
 (.N (.R (.add (.x 0) (.x 2)))
 (.ite (.le (.x 1) (.add (.x 0) (.x 2)))
 (.mk [.J 1] 3 1
 (.app (.x 0) (.x 2) 1 8 3
 (.Z 0
 (.Z 0
 (.O (.pt 0 0) 1 [(.sl (.x 4))] ⟨0,0,0,0,1,0⟩
 (.N (.X (.x 1) (.x 4))
 (.N (.nns (.x 4))
 (.O (.el (.x 4) (.x 1) 6 3) 1 [.J 3] ⟨1,0,0,0,0,0⟩
 (.N (.R (.add (.c 1) (.x 3)))
 (.N (.R (.add (.x 1) (.add (.c 1) (.x 3))))
 (.again 0 ⟨1,0,0,0,0,1⟩ ⟨2,0,0,0,1,1⟩ ⟨[(.add (.x 1) (.add (.c 1) (.x 3)))],[],[],[],[(.x 3)],[]⟩)))))))))))
 (.ret (.p (.L 0)))))))))))))
theorem J5:aU ⟨true,[]⟩ Tryz.prog (fun l=>([⟨[5,6],[9,10,11,12,13,14,15,16,17,18,19,20,32,33,34,35,21,22,23,24,25,26,27,28,29,30,31],[]⟩]:List bG).getD l ⟨[],[],[]⟩) Tryz.f38=BH:=by kernel_rfl
theorem Rz:az Tryz.prog .zero Tryz.f38.params.toList=some ([.P 0,.J 0],⟨1,0,0,0,0,1⟩):=by kernel_rfl
def Zz (h:Hp) (b0:Nat) (l:List Ng) (at_:Nat) (z:Int) (fuel:Nat) (ks:List Int) (_:Nat) (C:Ctx):Prop:=
 ∃ (j:Nat) (k:Int) (acc ks':List Int) (out:bM) (hh:Hp),C=⟨[at_,k],[],[],[],[out],[some (b0,0)],hh,cu⟩/\bY h hh/\dC hh out (ku acc) 3 1/\out.n=acc.length/\(∀ y,out.a=some y->h y.1=none)/\iq l (at_+z) j k=some ks'/\ks=acc++ks'/\acc.length+j=fuel/\-1<=k/\k<=3000000
set_option maxHeartbeats 4000000 in
def Nh:Ct Tryz.prog where
 f:=38
 spec:=fun args h φ=>∃ b0 sl l at_ z fuel ks r T,args=[.pointer (some ⟨b0,0,none⟩),.int .i64 (at_:Nat)]/\h b0=some ⟨bM.val sl::r,T⟩/\NG h sl l/\l.length<=1000000/\fuel<=1000000/\(∃ x:Ng,l[at_]? = some x/\x.z=z)/\0<=z/\z<=l.length/\iq l (at_+z) fuel (at_+1)=some ks/\
  ∀ sl' k,bY h k->dC k sl' (ku ks) 3 1->sl'.n=ks.length->φ sl'.val k
 ok:=by
  rintro args h φ w ⟨b0,sl,l,at_,z,fuel,ks,r,T,rfl,hb0,R,hl,hf,⟨x,hx,rfl⟩,z0,z1,hk,hφ⟩ hH;have hn:=NG.n R;obtain⟨hat,hx2⟩:=List.getElem?_eq_some_iff.1 hx;refine aZ Tryz.func38 J5 Rz [] φ (Zz h b0 l at_ x.z fuel ks) (fun _ C=>rest l at_ x.z C) ⟨[(at_:Int)],[],[],[],[],[some (b0,0)],h,cu⟩ ⟨rfl,rfl,rfl,rfl,rfl,rfl⟩ af ?_ w hH rfl;generalize hE:(⟨aG _,_,_,_⟩:Env)=E;have ep:E.post=φ:=by rw[<- hE]
  have ei:E.inv=(Zz h b0 l at_ x.z fuel ks):=by rw[<- hE]
  have em:E.meas=(fun _ C=>rest l at_ x.z C):=by rw[<- hE]
  clear hE;unfold BH;rw[aA];refine⟨by simp[go_sem];omega,?_⟩;rw[ae];refine bH ?_ ?_
  . rw[ei];exact⟨fuel,(at_:Int)+1,[],ks,⟨none,0,0⟩,h,rfl,fun _ _ h=>h,.inl ⟨rfl,rfl⟩,rfl,fun y hy=>(by cases hy),hk,rfl,Nat.zero_add _,by omega,by omega⟩
  rw[ei,em];rintro i bb ss v ll pp hh M ⟨j,k,acc,ks',out,hh',hC,hle,ho,hon,hfr,hkp,hks,hj,hk0,hk1⟩ hM;cases hC;have hM':M 0=((at_:Int)+x.z+1 - k).toNat:=hM;have R':=NG.le R hle;have hb1:=hle _ _ hb0;obtain⟨b,o,ha⟩:=Rows.nn R' (j:=at_) (by omega);have rz:=Rows.read (off:=3) (m:=1) R' (j:=at_) (by omega) (by omega) ha;rw[show at_*6+3=at_*6+3 from rfl,<- List.drop_drop,eP (by omega),hx2] at rz;rw[aA];refine⟨by simp[go_sem],?_⟩;rw[ag];refine⟨by simp[go_sem],?_⟩;refine rL ⟨[],[],[],[],[sl],[]⟩ rfl af (by simp[go_sem,bI hb1]) ?_;rw[ag];refine⟨by simp[go_sem,ha];omega,?_⟩;rw[ag];refine⟨by simp[go_sem,ha],?_⟩;refine rL ⟨[x.z],[],[],[],[],[]⟩ rfl af (by simpa[go_sem,ha,Ng.cs] using rz) ?_;rw[ag];refine⟨by simp[go_sem];omega,?_⟩;by_cases hks2:k<=at_+x.z;rotate_left
  . rw[ah,if_neg (by simpa[go_sem] using hks2),ae,au,ep];have:ks'=[]:=by
     cases j with
     | zero=>rw[iq,if_neg hks2] at hkp;cases hkp;rfl
     | succ j=>rw[iq,if_neg hks2] at hkp;cases hkp;rfl
    subst this;rw[List.append_nil] at hks;subst hks;exact hφ out hh hle ho hon
  cases j with
  | zero=>rw[iq,if_pos hks2] at hkp;cases hkp
  | succ j=>
    rw[iq,if_pos hks2] at hkp;split at hkp;rotate_left
    . cases hkp
    rename_i hb;obtain⟨b0',b1,b2,b3⟩:=hb;obtain⟨ks2,hk2,rfl⟩:=Option.map_eq_some_iff.1 hkp;obtain⟨kn,rfl⟩:∃ kn:Nat,k=kn:=⟨k.toNat,by omega⟩;have hkl:kn<l.length:=by omega
    have hy:l.getD ((kn:Int)).toNat ⟨0,0,0,0,0,[]⟩=l[kn]:=by simp[List.getD_eq_getElem?_getD,hkl]
    rw[hy] at hk2 b2 b3;rw[ah,if_pos (by simpa[go_sem] using hks2),ae,aW];intro bb hbb;have hbb':hh bb=none:=hbb;rw[ae,bT];have hle2:=dU hbb' ⟨[Value.int .i64 (kn:Int)],3⟩;refine⟨ku acc,ku [(kn:Int)],uM ho hle2,.inr ⟨by simp[go_sem],?_⟩,?_,?_,?_,?_⟩
    . simp[go_sem,ku]
    . intro u hu;simp[ku] at hu;subst hu;rfl
    . show out.n+1<=maxLen;unfold maxLen;omega
    . show (out.n+1)*8<=_;omega
    intro s' k' g1 g2 g3 g4;have g2':s'.n=out.n+1:=g2;have hle3:bY h k':=fun c oo hc=>g4 c oo (fun y hy e=>by
     have:=hfr y hy;rw[e,hc] at this;cases this) (hle2 _ _ (hle _ _ hc))
    have R3:=NG.le R hle3;have hb3:=hle3 _ _ hb0;have rk:=Rows.read (off:=3) (m:=1) R3 (j:=kn) (by omega) (by omega) ha;rw[<- List.drop_drop,eP (by omega)] at rk;generalize l[kn]=y at *;rw[aA];refine⟨by simp[go_sem],?_⟩;rw[ag];refine⟨by simp[go_sem],?_⟩;refine rL ⟨[],[],[],[],[sl],[]⟩ rfl af (by simp[go_sem,bI hb3]) ?_;rw[ag];refine⟨by simp[go_sem,ha];omega,?_⟩;rw[ag];refine⟨by simp[go_sem,ha],?_⟩;refine rL ⟨[y.z],[],[],[],[],[]⟩ rfl af (by simpa[go_sem,ha,Ng.cs] using rk) ?_;rw[ag];refine⟨by simp[go_sem];omega,?_⟩;rw[ag];refine⟨by simp[go_sem];omega,?_⟩;rw[ae,says_again,ei,em];refine⟨?_,?_⟩
    . refine⟨j,(kn:Int)+(1+y.z),acc++[(kn:Int)],ks2,s',k',rfl,hle3,by rw[tq];exact g1,by rw[g2',hon];simp,fun q hq=>?_,hk2,by rw[hks];simp,by simp;omega,by omega,by omega⟩;rcases g3 q hq with ⟨q2,hq2,e⟩ | hn2
      . rw[<- e];exact hfr q2 hq2
      . cases hh2:h q.1 with
        | none=>rfl
        | some oo=>
          have:(hh.set bb ⟨[Value.int .i64 (kn:Int)],3⟩) q.1=none:=hn2;rw[hle2 _ _ (hle _ _ hh2)] at this;cases this
    . show (((at_:Int)+x.z+1 - ((kn:Int)+(1+y.z))).toNat)<M 0;omega
def BJ:Fm:=(.Z 0
 (.Z 0
 (.O (.pt 0 0) 1 [(.sl (.x 0))] ⟨0,0,0,0,1,0⟩
 (.N (.X (.x 0) (.x 0))
 (.O (.el (.x 0) (.x 0) 6 0) 6 [.U 1,.J 2,.J 3,.J 4,.J 5,(.s (.x 0))] ⟨5,0,1,0,0,0⟩
 (.ite (.eqI (.x 1) (.c 15))
 (.ret (.p (.W [105,110,116])))
 (.ite (.eqI (.x 1) (.c 16))
 (.ret (.p (.W [98,111,111,108])))
 (.ite (.eqI (.x 1) (.c 17))
 (.ret (.p (.W [115,116,114])))
 (.ite (.eqI (.x 1) (.c 18))
 (.ret (.p (.W [99,111,109,112])))
 (.ite (.eqI (.x 1) (.c 19))
 (.ret (.p (.S 0)))
 (.N (.R (.add (.x 0) (.c 1)))
 (.C 28 [.P 0,(.I (.add (.x 0) (.c 1)))] (.p (.S 1)) ⟨0,0,1,0,0,0⟩
 (.N (.le (.add (.len (.c [91])) (.len (.x 1))) (.c 9223372036854775807))
 (.N (.le (.add (.len (.app (.c [91]) (.x 1))) (.len (.c [93]))) (.c 9223372036854775807))
 (.ret (.p (.one (.s (.app (.app (.c [91]) (.x 1)) (.c [93]))))))))))))))))))))
theorem J6:aU ⟨true,[]⟩ Tryz.prog (fun l=>([]:List bG).getD l ⟨[],[],[]⟩) Tryz.f28=BJ:=by kernel_rfl
theorem RF:az Tryz.prog .zero Tryz.f28.params.toList=some ([.P 0,.J 0],⟨1,0,0,0,0,1⟩):=by kernel_rfl
def mQ (l:List Ng):Nat->Nat->Option (List UInt8)
 | 0,_=>none
 | n+1,i=>match l[i]? with
   | none=>none
   | some x=>if x.k=15 then some [105,110,116] else if x.k=16 then some [98,111,111,108] else if x.k=17 then some [115,116,114] else if x.k=18 then some [99,111,109,112] else if x.k=19 then some x.x
     else (mQ l n (i+1)).map fun s=>91::(s++[93])
def U3 (n:Nat) (args:List Value) (h:Hp) (φ:Value->Hp->Prop):Prop:=
 ∃ b0 sl l i s r T,args=[.pointer (some ⟨b0,0,none⟩),.int .i64 (i:Nat)]/\h b0=some ⟨bM.val sl::r,T⟩/\NG h sl l/\l.length<=1000000/\mQ l n i=some s/\s.length<=1000000000000/\φ (.string (B s)) h
def L8 (n:Nat):Prop:=∀ args h φ w,U3 n args h φ->Holds h w->Calls Tryz.prog 28 args.toArray w fun e w'=>∃ v k,e=.returned v/\φ v k/\Holds k w'/\Fr w.heap.size h k w w'
def qh {n:Nat} (H:L8 n):Ct Tryz.prog:=⟨28,U3 n,H⟩
set_option maxHeartbeats 4000000 in
theorem o9:∀ n,L8 n
 | 0=>by
   rintro args h φ w ⟨b0,sl,l,i,s,r,T,rfl,hb0,R,hl,hk,_⟩ hH;cases hk
 | n+1=>by
   have ih:=o9 n;rintro args h φ w ⟨b0,sl,l,i,s,r,T,rfl,hb0,R,hl,hk,hsl,hφ⟩ hH;refine aZ Tryz.func28 J6 RF [qh ih] φ (bJ) (aV) ⟨[(i:Int)],[],[],[],[],[some (b0,0)],h,cu⟩ ⟨rfl,rfl,rfl,rfl,rfl,rfl⟩ af ?_ w hH rfl;generalize hE:(⟨aG _,_,_,_⟩:Env)=E;have sa0:E.spec 28=(qh ih).spec:=by rw[<- hE];rfl
   have ep:E.post=φ:=by rw[<- hE]
   clear hE;unfold BJ;have hn:=NG.n R;rw[mQ] at hk;cases hx:l[i]? with
   | none=>rw[hx] at hk;cases hk
   | some x=>
     rw[hx] at hk;simp only at hk;obtain⟨hat,hx2⟩:=List.getElem?_eq_some_iff.1 hx;obtain⟨b,o,ha⟩:=Rows.nn R (j:=i) (by omega);have rz:=NG.node R hat ha;rw[hx2] at rz;rw[aA];refine⟨by simp[go_sem],?_⟩;rw[ag];refine⟨by simp[go_sem],?_⟩;refine rL ⟨[],[],[],[],[sl],[]⟩ rfl af (by simp[go_sem,bI hb0]) ?_;rw[ag];refine⟨by simp[go_sem,ha];omega,?_⟩;refine rL ⟨[x.k,x.l,x.c,x.z,x.n],[],[x.x],[],[],[]⟩ rfl af (by simpa[go_sem,ha,Ng.cs] using rz) ?_;by_cases c1:x.k=15
     . rw[if_pos c1] at hk;cases hk;rw[ah,if_pos (by simpa[go_sem] using c1),ae,au,ep];exact hφ
     rw[if_neg c1] at hk;rw[ah,if_neg (by simpa[go_sem] using c1)];by_cases c2:x.k=16
     . rw[if_pos c2] at hk;cases hk;rw[ah,if_pos (by simpa[go_sem] using c2),ae,au,ep];exact hφ
     rw[if_neg c2] at hk;rw[ah,if_neg (by simpa[go_sem] using c2)];by_cases c3:x.k=17
     . rw[if_pos c3] at hk;cases hk;rw[ah,if_pos (by simpa[go_sem] using c3),ae,au,ep];exact hφ
     rw[if_neg c3] at hk;rw[ah,if_neg (by simpa[go_sem] using c3)];by_cases c4:x.k=18
     . rw[if_pos c4] at hk;cases hk;rw[ah,if_pos (by simpa[go_sem] using c4),ae,au,ep];exact hφ
     rw[if_neg c4] at hk;rw[ah,if_neg (by simpa[go_sem] using c4)];by_cases c5:x.k=19
     . rw[if_pos c5] at hk;cases hk;rw[ah,if_pos (by simpa[go_sem] using c5),ae,au,ep];exact hφ
     rw[if_neg c5] at hk;rw[ah,if_neg (by simpa[go_sem] using c5),ae,aA];refine⟨by simp[go_sem];omega,?_⟩;obtain⟨s2,hk2,rfl⟩:=Option.map_eq_some_iff.1 hk;rw[List.length_cons,List.length_append,List.length_cons,List.length_nil] at hsl;rw[ai,sa0];refine⟨b0,sl,l,i+1,s2,r,T,rfl,hb0,R,hl,hk2,by omega,?_⟩;refine rR ⟨[],[],[s2],[],[],[]⟩ rfl af rfl ?_;rw[ag];refine⟨by simp[go_sem];omega,?_⟩;rw[ag];refine⟨by simp[go_sem];omega,?_⟩;rw[aj,ep];exact hφ
end
end Go.Proofs.YtllbpdllkkcajaaGreatDoor
