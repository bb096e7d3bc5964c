/- hindcastlaw07: texts joined: TreA, TreE, TreG, TreH, NumH, NumI, LexA, LexB, LexC, LexD, LexE, LexF, LexGI, LexH, Shelf, LexI, LexJ, LexK, LexL, LexM. -/
import Derived.Test.YtllbpdllkkcajaaGreatDoorPbc
namespace Go.Proofs.YtllbpdllkkcajaaGreatDoor
open Go.RowKit
section
attribute [local go_sem] bg bf aC aj au aI aU aH ax says_again
def SN:Fm:=(.O (.pt 0 0) 1 [.U 5] ⟨1,0,0,0,0,0⟩
 (.load (.le (.x 5) (.x 0)) (.pt 1 0) 1 [.U 6] ⟨1,0,0,0,0,0⟩
 (.ret (.p (.one (.b (.and (.le (.x 5) (.x 0)) (.le (.x 0) (.x 6)))))))))
theorem YR:lq ⟨true,[]⟩ Tryz.prog (fun l=>([]:List bK).getD l ⟨[],[],[]⟩) Tryz.f133 [.agg [.U 0,.J 1,.J 2,.J 3,.J 4,.s (.x 0)],.one (.adr (.pt 0 0)),.one (.adr (.pt 1 0))] ⟨5,0,1,0,0,2⟩=SN:=by kernel_rfl
def YF:Fm:=(.O (.pt 0 0) 1 [(.sl (.x 0))] ⟨0,0,0,0,1,0⟩
 (.loop 0 ⟨[(.c 0)],[(.c false)],[],[],[],[]⟩
 (.ite (.lt (.x 5) (.cnt (.x 0)))
 (.N (.X (.x 5) (.x 0))
 (.O (.el (.x 0) (.x 5) 1 0) 1 [.U 6] ⟨1,0,0,0,0,0⟩
 (.ite (.eqI (.x 0) (.x 6))
 (.ret (.p (.one (.b (.c true)))))
 (.N (.R (.add (.x 5) (.c 1)))
 (.again 0 ⟨5,0,1,0,1,1⟩ ⟨6,1,1,0,1,1⟩ ⟨[(.add (.x 5) (.c 1))],[(.x 0)],[],[],[],[]⟩)))))
 (.ret (.p (.one (.b (.c false))))))))
theorem acl:lq ⟨true,[]⟩ Tryz.prog (fun l=>([⟨[3,8],[9,10,11,5,12,13,14,15,16],[]⟩]:List bK).getD l ⟨[],[],[]⟩) Tryz.f86 [.agg [.U 0,.J 1,.J 2,.J 3,.J 4,.s (.x 0)],.one (.adr (.pt 0 0))] ⟨5,0,1,0,0,1⟩=YF:=by kernel_rfl
def YD:Fm:=(.new [.U 0] 5
 (.new [.U 1] 5
 (.ret (.p (.one (.clo 133 [0,1]))))))
theorem aci:aZ ⟨true,[2,3]⟩ Tryz.prog (fun l=>([]:List bK).getD l ⟨[],[],[]⟩) Tryz.f90=YD:=by kernel_rfl
theorem ae6:az Tryz.prog .zero Tryz.f90.params.toList=some ([(.one (.U 0)),(.one (.U 1))],⟨2,0,0,0,0,0⟩):=by kernel_rfl
def YK:Fm:=(.new [(.sl (.x 0))] 44
 (.ret (.p (.one (.clo 86 [0])))))
theorem acp:aZ ⟨true,[]⟩ Tryz.prog (fun l=>([]:List bK).getD l ⟨[],[],[]⟩) Tryz.f52=YK:=by kernel_rfl
theorem afb:az Tryz.prog .zero Tryz.f52.params.toList=some ([.L 0],⟨0,0,0,0,1,0⟩):=by kernel_rfl
def LU:Fm:=(.C 90 [(.one (.i .u8 (.c 15))),(.one (.i .u8 (.c 20)))] (.p (.one (.v 0))) ⟨0,0,0,1,0,0⟩
 (.C 1000001 [(.one (.v 0)),(.agg [.U 0,.J 1,.J 2,.J 3,.J 4,(.s (.x 0))])] (.p (.B 0)) ⟨0,1,0,0,0,0⟩
 (.ret (.p (.B 0)))))
theorem V3:aZ ⟨true,[]⟩ Tryz.prog (fun l=>([]:List bK).getD l ⟨[],[],[]⟩) Tryz.f88=LU:=by kernel_rfl
theorem aat:az Tryz.prog .zero Tryz.f88.params.toList=some ([(.agg [.U 0,.J 1,.J 2,.J 3,.J 4,(.s (.x 0))])],⟨5,0,1,0,0,0⟩):=by kernel_rfl
def KL:Fm:=(.C 90 [(.one (.i .u8 (.c 21))),(.one (.i .u8 (.c 32)))] (.p (.one (.v 0))) ⟨0,0,0,1,0,0⟩
 (.C 1000001 [(.one (.v 0)),(.agg [.U 0,.J 1,.J 2,.J 3,.J 4,(.s (.x 0))])] (.p (.B 0)) ⟨0,1,0,0,0,0⟩
 (.ret (.p (.B 0)))))
theorem Vo:aZ ⟨true,[]⟩ Tryz.prog (fun l=>([]:List bK).getD l ⟨[],[],[]⟩) Tryz.f92=KL:=by kernel_rfl
theorem ZP:az Tryz.prog .zero Tryz.f92.params.toList=some ([(.agg [.U 0,.J 1,.J 2,.J 3,.J 4,(.s (.x 0))])],⟨5,0,1,0,0,0⟩):=by kernel_rfl
def FU:Fm:=(.ret (.p (.one (.b (.eqI (.x 0) (.c 6))))))
theorem P8:aZ ⟨true,[]⟩ Tryz.prog (fun l=>([]:List bK).getD l ⟨[],[],[]⟩) Tryz.f132=FU:=by kernel_rfl
theorem WO:az Tryz.prog .zero Tryz.f132.params.toList=some ([(.agg [.U 0,.J 1,.J 2,.J 3,.J 4,(.s (.x 0))])],⟨5,0,1,0,0,0⟩):=by kernel_rfl
def SQ:Fm:=(.loop 0 ⟨[(.c 0)],[(.c false)],[],[],[],[]⟩
 (.ite (.lt (.x 5) (.cnt (.x 0)))
 (.N (.X (.x 5) (.x 0))
 (.O (.el (.x 0) (.x 5) 6 0) 6 [.U 6,.J 7,.J 8,.J 9,.J 10,(.s (.x 1))] ⟨5,0,1,0,0,0⟩
 (.C 1000001 [(.one (.v 0)),(.agg [.U 6,.J 7,.J 8,.J 9,.J 10,(.s (.x 1))])] (.p (.B 1)) ⟨0,1,0,0,0,0⟩
 (.ite (.not (.x 1))
 (.ret (.p (.one (.b (.c false)))))
 (.N (.R (.add (.x 5) (.c 1)))
 (.again 0 ⟨5,0,1,1,1,0⟩ ⟨6,1,1,1,1,0⟩ ⟨[(.add (.x 5) (.c 1))],[(.x 0)],[],[],[],[]⟩))))))
 (.ret (.p (.one (.b (.c true)))))))
theorem YT:aZ ⟨true,[]⟩ Tryz.prog (fun l=>([⟨[4,10],[11,12,13,6,14,15,16,17,18],[6]⟩]:List bK).getD l ⟨[],[],[]⟩) Tryz.f51=SQ:=by kernel_rfl
theorem acQ:az Tryz.prog .zero Tryz.f51.params.toList=some ([(.agg [.U 0,.J 1,.J 2,.J 3,.J 4,(.s (.x 0)),(.sl (.x 0))]),(.one (.v 0))],⟨5,0,1,1,1,0⟩):=by kernel_rfl
def SV:Fm:=(.ite (.not (.eqI (.cnt (.x 0)) (.cnt (.x 1))))
 (.ret (.p (.one (.b (.c false)))))
 (.loop 0 ⟨[(.c 0)],[(.c false)],[],[],[],[]⟩
 (.ite (.lt (.x 5) (.cnt (.x 1)))
 (.N (.X (.x 5) (.x 1))
 (.O (.el (.x 1) (.x 5) 1 0) 1 [(.v 0)] ⟨0,0,0,1,0,0⟩
 (.N (.X (.x 5) (.x 0))
 (.O (.el (.x 0) (.x 5) 6 0) 6 [.U 6,.J 7,.J 8,.J 9,.J 10,(.s (.x 1))] ⟨5,0,1,0,0,0⟩
 (.C 1000001 [(.one (.v 0)),(.agg [.U 6,.J 7,.J 8,.J 9,.J 10,(.s (.x 1))])] (.p (.B 1)) ⟨0,1,0,0,0,0⟩
 (.ite (.not (.x 1))
 (.ret (.p (.one (.b (.c false)))))
 (.N (.R (.add (.x 5) (.c 1)))
 (.again 0 ⟨5,0,1,0,2,0⟩ ⟨6,1,1,0,2,0⟩ ⟨[(.add (.x 5) (.c 1))],[(.x 0)],[],[],[],[]⟩))))))))
 (.ret (.p (.one (.b (.c true))))))))
theorem YV:aZ ⟨true,[]⟩ Tryz.prog (fun l=>([⟨[4,15],[16,17,18,19,5,6,20,21,22,23,24,25,26,27,28],[]⟩]:List bK).getD l ⟨[],[],[]⟩) Tryz.f87=SV:=by kernel_rfl
theorem acS:az Tryz.prog .zero Tryz.f87.params.toList=some ([(.agg [.U 0,.J 1,.J 2,.J 3,.J 4,(.s (.x 0)),(.sl (.x 0))]),.L 1],⟨5,0,1,0,2,0⟩):=by kernel_rfl
structure Ng where
 k:Int
 l:Int
 c:Int
 z:Int
 n:Int
 x:List UInt8
 deriving DecidableEq
def Ng.cs (x:Ng):List Value:=[.int .u8 x.k,.int .i64 x.l,.int .i64 x.c,.int .i64 x.z,.int .i64 x.n,.string (B x.x)]
def Ng.v (x:Ng):Value:=.agg #[.int .u8 x.k,.int .i64 x.l,.int .i64 x.c,.int .i64 x.z,.int .i64 x.n,.string (B x.x)]
def qA (l:List Ng):List Value:=l.flatMap Ng.cs
theorem qK (l:List Ng):(qA l).length=l.length*6:=by
 induction l with
 | nil=>rfl
 | cons a l ih=>rw[qA,List.flatMap_cons,List.length_append];show 6+(qA l).length=_;rw[ih,List.length_cons];omega
theorem CY (a:Ng) (l:List Ng):qA (a::l)=a.cs++qA l:=by rw[qA,List.flatMap_cons];rfl
theorem IG (a b:List Ng):qA (a++b)=qA a++qA b:=by simp[qA]
theorem jl {l:List Ng} {j:Nat} (hj:j<l.length):(qA l).drop (j*6)=l[j].cs++qA (l.drop (j+1)):=by
 induction l generalizing j with
 | nil=>simp at hj
 | cons a l ih=>
   cases j with
   | zero=>simp[CY]
   | succ j=>
     rw[CY,show (j+1)*6=a.cs.length+j*6 by simp[Ng.cs];omega,List.drop_append];have:(a.cs.drop (a.cs.length+j*6))=[]:=List.drop_eq_nil_of_le (by omega);rw[this,List.nil_append,Nat.add_sub_cancel_left];simpa using ih (by simpa using hj)
def Rows (h:Hp) (sl:bM) (cs:List Value) (sz:Nat):Prop:=cs.length=sl.n*sz/\(sl.n=0\/hread h sl.a (sl.n*sz)=some cs)
theorem Rows.le {h k:Hp} {sl:bM} {cs:List Value} {sz:Nat} (R:Rows h sl cs sz) (hl:dA h k):Rows k sl cs sz:=⟨R.1,R.2.imp id (MP hl)⟩
theorem MO {h:Hp} {b o n:Nat} {cs:List Value} (hr:hread h (some (b,o)) n=some cs) {k m:Nat} (hk:k+m<=n):hread h (some (b,o+k)) m=some ((cs.drop k).take m):=by
 unfold hread at hr⊢;simp only at hr⊢;split at hr
 . rename_i x hx;split at hr
   . cases hr;rw[if_pos (by omega)];congr 1;rw[List.drop_take,List.take_take,List.drop_drop,Nat.min_eq_left (by omega)]
   . cases hr
 . cases hr
theorem Rows.nn {h:Hp} {sl:bM} {cs:List Value} {sz j:Nat} (R:Rows h sl cs sz) (hj:j<sl.n):∃ b o,sl.a=some (b,o):=by
 rcases R.2 with h0 | hr
 . omega
 . unfold hread at hr;cases ha:sl.a with
   | none=>rw[ha] at hr;cases hr
   | some q=>exact⟨q.1,q.2,rfl⟩
theorem Rows.read {h:Hp} {sl:bM} {cs:List Value} {sz j off m b o:Nat} (R:Rows h sl cs sz) (hj:j<sl.n) (hm:off+m<=sz) (ha:sl.a=some (b,o)):hread h (some (b,o+j*sz+off)) m=some ((cs.drop (j*sz+off)).take m):=by
 rcases R.2 with h0 | hr
 . omega
 . rw[ha] at hr;rw[Nat.add_assoc];refine MO hr ?_;have:j*sz+sz<=sl.n*sz:=by
    have:=Nat.mul_le_mul_right sz (show j+1<=sl.n by omega);rw[Nat.add_mul,Nat.one_mul] at this;exact this
   omega
theorem Rows.Jb {h:Hp} {sl:bM} {cs:List Value} {T:TypeId} {sz:Nat} (ho:eF h sl cs T sz):Rows h sl cs sz:=by
 rcases ho with ⟨rfl,rfl⟩ | ⟨b,o,h1,h2,h3,h4,h5,h6,h7⟩
 . exact⟨by simp,.inl rfl⟩
 . have hle:=Nat.mul_le_mul_right sz h5;refine⟨by rw[h7,List.length_take];omega,.inr ?_⟩;rw[h1,bz h2,if_pos (by omega),h7];rfl
def NG (h:Hp) (sl:bM) (l:List Ng):Prop:=Rows h sl (qA l) 6
theorem NG.n {h:Hp} {sl:bM} {l:List Ng} (R:NG h sl l):sl.n=l.length:=by
 have:=R.1;rw[qK] at this;omega
theorem NG.le {h k:Hp} {sl:bM} {l:List Ng} (R:NG h sl l) (hl:dA h k):NG k sl l:=Rows.le R hl
theorem NG.node {h:Hp} {sl:bM} {l:List Ng} (R:NG h sl l) {j b o:Nat} (hj:j<l.length) (ha:sl.a=some (b,o)):hread h (some (b,o+j*6+0)) 6=some l[j].cs:=by
 have hn:=NG.n R;rw[Rows.read R (by omega) (by omega) ha,Nat.add_zero,jl hj];rfl
def Want (cs:List (Ct Tryz.prog)) (h:Hp) (v:Value) (p:Ng->Bool):Prop:=
 ∃ f cap,v=.func (.func f) #[] (List.toArray cap)/\qM Tryz.prog f=true/\f≠kC/\∀ (x:Ng) k φ,dA h k->φ (.bool (p x)) k->rQ cs f (x.v::cap) k φ
theorem Want.le {cs:List (Ct Tryz.prog)} {h k:Hp} {v:Value} {p:Ng->Bool} (W:Want cs h v p) (hl:dA h k):Want cs k v p:=by
 obtain⟨f,cap,h1,h2,h3,h4⟩:=W;exact⟨f,cap,h1,h2,h3,fun x k' φ hk hφ=>h4 x k' φ (fun b o hb=>hk b o (hl b o hb)) hφ⟩
theorem Want.call {cs:List (Ct Tryz.prog)} {h:Hp} {v:Value} {p:Ng->Bool} (W:Want cs h v p) {k:Hp} (hl:dA h k) {x:Ng} {φ:Value->Hp->Prop} (hφ:φ (.bool (p x)) k):aG cs kC [v,x.v] k φ:=by
 obtain⟨f,cap,rfl,h2,h3,h4⟩:=W;unfold aG;rw[if_pos rfl];exact⟨[x.v],f,cap,rfl,h2,h3,h4 x k φ hl hφ⟩
def ut (a b:Int) (x:Ng):Bool:=decide (a<=x.k)&&decide (x.k<=b)
def oW:Ct Tryz.prog where
 f:=133
 spec:=fun args h φ=>∃ x p q a b T U,args=[Ng.v x,.pointer (some ⟨p,0,none⟩),.pointer (some ⟨q,0,none⟩)]/\h p=some ⟨[.int .u8 a],T⟩/\h q=some ⟨[.int .u8 b],U⟩/\φ (.bool (ut a b x)) h
 ok:=by
  rintro args h φ w ⟨x,p,q,a,b,T,U,rfl,hp,hq,hφ⟩ hH;refine qI Tryz.func133 YR [] φ bP bu ⟨[x.k,x.l,x.c,x.z,x.n],[],[x.x],[],[],[some (p,0),some (q,0)],h,df⟩ ⟨rfl,rfl,rfl,rfl,rfl,rfl⟩ af ?_ w hH rfl;unfold ut at hφ;rw[<- ae];unfold SN;by_cases h1:a<=x.k
  . iterate 6 (try simp only[ae];try simp[go_sem,bz hp,bz hq,h1])
    simpa[h1,leB] using hφ
  . iterate 6 (try simp only[ae];try simp[go_sem,bz hp,h1])
    simpa[h1,leB] using hφ
def BP:Ct Tryz.prog where
 f:=132
 spec:=fun args h φ=>∃ x,args=[Ng.v x]/\φ (.bool (decide (x.k=6))) h
 ok:=by
  rintro args h φ w ⟨x,rfl,hφ⟩ hH;refine bn Tryz.func132 P8 WO [] φ bP bu ⟨[x.k,x.l,x.c,x.z,x.n],[],[x.x],[],[],[],h,df⟩ ⟨rfl,rfl,rfl,rfl,rfl,rfl⟩ af ?_ w hH rfl;rw[<- ae];unfold FU
  iterate 3 (try simp only[ae];try simp[go_sem])
  exact hφ
def Qq (l:List Int):List Value:=l.map fun k=>.int .u8 k
theorem xI (l:List Int):(Qq l).length=l.length:=by simp[Qq]
set_option maxHeartbeats 2000000 in
def afL:Ct Tryz.prog where
 f:=86
 spec:=fun args h φ=>∃ x p sl l T,args=[Ng.v x,.pointer (some ⟨p,0,none⟩)]/\h p=some ⟨[bM.val sl],T⟩/\Rows h sl (Qq l) 1/\l.length<=1000/\φ (.bool (l.contains x.k)) h
 ok:=by
  rintro args h φ w ⟨x,p,sl,l,T,rfl,hp,R,hl,hφ⟩ hH;have hn:sl.n=l.length:=by have:=R.1;rw[xI] at this;omega
  refine qI Tryz.func86 acl [] φ (fun _ C=>∃ j:Nat,C=⟨[x.k,x.l,x.c,x.z,x.n,j],[false],[x.x],[],[sl],[some (p,0)],h,df⟩/\j<=l.length/\l.contains x.k=(l.drop j).contains x.k) (fun _ C=>(l.length - C.i.getD 5 0).toNat)
   ⟨[x.k,x.l,x.c,x.z,x.n],[],[x.x],[],[],[some (p,0)],h,df⟩ ⟨rfl,rfl,rfl,rfl,rfl,rfl⟩ af ?_ w hH rfl
  generalize hE:(⟨aG _,_,_,_⟩:Env)=E;have ep:E.post=φ:=by rw[<- hE]
  have ei:E.inv=(fun _ C=>∃ j:Nat,C=⟨[x.k,x.l,x.c,x.z,x.n,j],[false],[x.x],[],[sl],[some (p,0)],h,df⟩/\j<=l.length/\l.contains x.k=(l.drop j).contains x.k):=by rw[<- hE]
  have em:E.meas=(fun _ C=>((l.length:Int) - C.i.getD 5 0).toNat):=by rw[<- hE]
  clear hE;unfold YF;rw[aU,if_pos (by rfl)];refine (bQ _ _).2 ⟨⟨[],[],[],[],[sl],[]⟩,rfl,af,by simp[go_sem,bz hp],?_⟩;rw[ae];refine bI ?_ ?_
  . rw[ei];exact⟨0,rfl,by omega,rfl⟩
  rw[ei,em];rintro i bb ss v ll pp hh M ⟨j,hC,h3,h4⟩ hM;cases hC;have hM':M 0=((l.length:Int) - j).toNat:=hM;rw[h4] at hφ;by_cases hj:j<l.length
  . obtain⟨b,o,ha⟩:=R.nn (j:=j) (by omega);have hrd:=Rows.read (off:=0) (m:=1) R (j:=j) (by omega) (by omega) ha;have hz:(j:Int)<sl.n:=by omega
    have e:(List.drop (j*1+0) (Qq l)).take 1=[.int .u8 l[j]]:=by
     rw[Nat.mul_one,Nat.add_zero,List.drop_eq_getElem_cons (by rw[xI];exact hj)];simp[Qq]
    rw[e] at hrd;rw[List.drop_eq_getElem_cons hj] at h4 hφ;generalize l[j]=y at *;rw[aj,if_pos (by simpa[go_sem] using hz),ae,aC];refine⟨by simp[go_sem,hz,ha],?_⟩;refine rL ⟨[y],[],[],[],[],[]⟩ rfl af (by simpa[go_sem,ha] using hrd) ?_;by_cases hx:x.k=y
    . rw[ah,if_pos (by simpa[go_sem] using hx),ae,ax,ep];simpa[go_sem,hx] using hφ
    . rw[ah,if_neg (by simpa[go_sem] using hx),ae,aC];refine⟨by simp[go_sem];omega,?_⟩;rw[ae];simp[go_sem,ei,em];exact⟨⟨j+1,by simp,by omega,by simpa[hx] using h4⟩,by omega⟩
  . have hz:¬ ((j:Int)<sl.n):=by omega
    rw[List.drop_eq_nil_of_le (by omega)] at hφ;rw[aj,if_neg (by simpa[go_sem] using hz),ae,ax,ep];simpa[go_sem] using hφ
def vz:Ct Tryz.prog where
 f:=90
 spec:=fun args h φ=>∃ a b,args=[.int .u8 a,.int .u8 b]/\∀ p q k,dA h k->k p=some ⟨[.int .u8 a],5⟩->k q=some ⟨[.int .u8 b],5⟩->φ (.func (.func 133) #[] #[.pointer (some ⟨p,0,none⟩),.pointer (some ⟨q,0,none⟩)]) k
 ok:=by
  rintro args h φ w ⟨a,b,rfl,hφ⟩ hH;refine bn Tryz.func90 aci ae6 [] φ (bP) (bu) ⟨[a,b],[],[],[],[],[],h,df⟩ ⟨rfl,rfl,rfl,rfl,rfl,rfl⟩ af ?_ w hH rfl;generalize hE:(⟨aG _,_,_,_⟩:Env)=E;have ep:E.post=φ:=by rw[<- hE]
  clear hE;unfold YD;rw[eu];intro p hp;rw[ae,eu];intro q hq;rw[ak,ep];have hp':h p=none:=hp;have hq':(h.set p ⟨[.int .u8 a],5⟩) q=none:=hq;have hne:q≠p:=fun e=>by rw[e,aA] at hq';cases hq'
  refine hφ p q _ (fun c o hc=>?_) ?_ ?_
  . show ((h.set p _).set q _) c=_;rw[aO _ (fun e=>by rw[e] at hc;rw[aO _ hne,hc] at hq';cases hq'),aO _ (fun e=>by rw[e,hp'] at hc;cases hc)];exact hc
  . show ((h.set p _).set q _) p=_;rw[aO _ hne.symm,aA];rfl
  . show ((h.set p _).set q _) q=_;rw[aA];rfl
def zK:Ct Tryz.prog where
 f:=52
 spec:=fun args h φ=>∃ sl,args=[bM.val sl]/\∀ p k T,dA h k->k p=some ⟨[bM.val sl],T⟩->φ (.func (.func 86) #[] #[.pointer (some ⟨p,0,none⟩)]) k
 ok:=by
  rintro args h φ w ⟨sl,rfl,hφ⟩ hH;refine bn Tryz.func52 acp afb [] φ (bP) (bu) ⟨[],[],[],[],[sl],[],h,df⟩ ⟨rfl,rfl,rfl,rfl,rfl,rfl⟩ af ?_ w hH rfl;generalize hE:(⟨aG _,_,_,_⟩:Env)=E;have ep:E.post=φ:=by rw[<- hE]
  clear hE;unfold YK;rw[eu];intro p hp;rw[ak,ep];have hp':h p=none:=hp;refine hφ p _ _ (fun c o hc=>?_) (aA _ _ _);show (h.set p _) c=_;rw[aO _ (fun e=>by rw[e,hp'] at hc;cases hc)];exact hc
theorem JY {cs:List (Ct Tryz.prog)} (hc:rQ cs 133=oW.spec) {p q:Nat} {a b:Int} {k:Hp} (h1:k p=some ⟨[.int .u8 a],5⟩) (h2:k q=some ⟨[.int .u8 b],5⟩) {x:Ng} {φ:Value->Hp->Prop} (hφ:φ (.bool (ut a b x)) k):
 aG cs kC [.func (.func 133) #[] #[.pointer (some ⟨p,0,none⟩),.pointer (some ⟨q,0,none⟩)],x.v] k φ:=by
 unfold aG;rw[if_pos rfl];refine⟨[x.v],_,[.pointer (some ⟨p,0,none⟩),.pointer (some ⟨q,0,none⟩)],rfl,by kernel_rfl,by decide,?_⟩;rw[hc];exact⟨x,p,q,a,b,_,_,rfl,h1,h2,hφ⟩
def Iq:Ct Tryz.prog where
 f:=88
 spec:=fun args h φ=>∃ x,args=[Ng.v x]/\φ (.bool (ut 15 20 x)) h
 ok:=by
  rintro args h φ w ⟨x,rfl,hφ⟩ hH;refine dh (bn Tryz.func88 V3 aat [vz,oW] (fun v k=>∃ k',dA k' k/\φ v k') bP bu ⟨[x.k,x.l,x.c,x.z,x.n],[],[x.x],[],[],[],h,df⟩ ⟨rfl,rfl,rfl,rfl,rfl,rfl⟩ af ?_ w hH rfl);have hs:rQ [vz,oW] 133=oW.spec:=rfl;generalize hE:(⟨aG _,_,_,_⟩:Env)=E;have s1:E.spec 90=vz.spec:=by rw[<- hE];rfl
  have s2:E.spec 1000001=aG [vz,oW] kC:=by rw[<- hE];rfl
  have ep:E.post=(fun v k=>∃ k',dA k' k/\φ v k'):=by rw[<- hE]
  clear hE;unfold LU;rw[au,if_pos (by rfl),s1];refine⟨15,20,rfl,fun p q k hk h1 h2=>?_⟩;refine⟨fun h=>(by cases h),(bQ _ _).2 ⟨⟨[],[],[],[.func (.func 133) #[] #[.pointer (some ⟨p,0,none⟩),.pointer (some ⟨q,0,none⟩)]],[],[]⟩,rfl,by intro u hu;simp at hu;subst hu;rfl,rfl,?_⟩⟩;rw[ag,s2];refine JY (x:=x) hs h1 h2 ?_;refine rR ⟨[],[ut 15 20 x],[],[],[],[]⟩ rfl af rfl ?_;rw[ak,ep];exact⟨h,hk,hφ⟩
def LV:Fm:=(.N (.R (.add (.x 0) (.c 1)))
 (.loop 0 ⟨[(.add (.x 0) (.c 1))],[],[],[],[.nil],[]⟩
 (.N (.X (.x 0) (.x 0))
 (.N (.nns (.x 0))
 (.O (.el (.x 0) (.x 0) 6 3) 1 [.J 2] ⟨1,0,0,0,0,0⟩
 (.N (.R (.add (.x 0) (.x 2)))
 (.ite (.le (.x 1) (.add (.x 0) (.x 2)))
 (.mk [.J 1] 3 1
 (.app (.x 1) (.x 2) 1 8 3
 (.N (.X (.x 1) (.x 0))
 (.N (.nns (.x 0))
 (.O (.el (.x 0) (.x 1) 6 3) 1 [.J 3] ⟨1,0,0,0,0,0⟩
 (.N (.R (.add (.c 1) (.x 3)))
 (.N (.R (.add (.x 1) (.add (.c 1) (.x 3))))
 (.again 0 ⟨1,0,0,0,1,0⟩ ⟨2,0,0,0,2,0⟩ ⟨[(.add (.x 1) (.add (.c 1) (.x 3)))],[],[],[],[(.x 3)],[]⟩))))))))
 (.ret (.p (.L 1))))))))))
theorem V5:aZ ⟨true,[]⟩ Tryz.prog (fun l=>([⟨[5,6],[9,10,11,12,13,14,15,16,17,26,27,28,29,18,19,20,21,22,23,24,25],[]⟩]:List bK).getD l ⟨[],[],[]⟩) Tryz.f50=LV:=by kernel_rfl
theorem aau:az Tryz.prog .zero Tryz.f50.params.toList=some ([.L 0,.J 0],⟨1,0,0,0,1,0⟩):=by kernel_rfl
def qN (l:List Int):List Value:=l.map fun k=>.int .i64 k
theorem TB (l:List Int):(qN l).length=l.length:=by simp[qN]
theorem xH (a b:List Int):qN (a++b)=qN a++qN b:=by simp[qN]
def iI (l:List Ng) (stop:Int):Nat->Int->Option (List Int)
 | 0,k=>if k<=stop then none else some []
 | n+1,k=>if k<=stop then (if 0<=k/\k<l.length/\0<=(l.getD k.toNat ⟨0,0,0,0,0,[]⟩).z/\(l.getD k.toNat ⟨0,0,0,0,0,[]⟩).z<=l.length then (iI l stop n (k+(1+(l.getD k.toNat ⟨0,0,0,0,0,[]⟩).z))).map (k::·) else none) else some []
theorem yV {h k:Hp} {s:bM} {xs:List Value} {ty:TypeId} {sz:Nat} (ho:eF h s xs ty sz) (hl:dA h k):eF k s xs ty sz:=by
 rcases ho with h0 | ⟨b,o,h1,h2,h3⟩
 . exact .inl h0
 . exact .inr ⟨b,o,h1,hl _ _ h2,h3⟩
def Zn (h:Hp) (sl:bM) (l:List Ng) (at_:Nat) (z:Int) (fuel:Nat) (ks:List Int) (_:Nat) (C:Ctx):Prop:=
 ∃ (j:Nat) (k:Int) (acc ks':List Int) (out:bM) (hh:Hp),C=⟨[at_,k],[],[],[],[sl,out],[],hh,df⟩/\dA h hh/\eF hh out (qN acc) 3 1/\out.n=acc.length/\(∀ y,out.a=some y->h y.1=none)/\iI l (at_+z) j k=some ks'/\ks=acc++ks'/\acc.length+j=fuel/\-1<=k/\k<=3000000
def rest (_l:List Ng) (at_:Nat) (z:Int) (C:Ctx):Nat:=((at_:Int)+z+1 - C.i.getD 1 0).toNat
set_option maxHeartbeats 4000000 in
def X0:Ct Tryz.prog where
 f:=50
 spec:=fun args h φ=>∃ sl l at_ z fuel ks,args=[bM.val sl,.int .i64 (at_:Nat)]/\NG h sl l/\l.length<=1000000/\fuel<=1000000/\(∃ x:Ng,l[at_]? = some x/\x.z=z)/\0<=z/\z<=l.length/\iI l (at_+z) fuel (at_+1)=some ks/\
  ∀ sl' k,dA h k->eF k sl' (qN ks) 3 1->sl'.n=ks.length->φ sl'.val k
 ok:=by
  rintro args h φ w ⟨sl,l,at_,z,fuel,ks,rfl,R,hl,hf,⟨x,hx,rfl⟩,z0,z1,hk,hφ⟩ hH;have hn:=NG.n R;obtain⟨hat,hx2⟩:=List.getElem?_eq_some_iff.1 hx;refine bn Tryz.func50 V5 aau [] φ (Zn h sl l at_ x.z fuel ks) (fun _ C=>rest l at_ x.z C) ⟨[(at_:Int)],[],[],[],[sl],[],h,df⟩ ⟨rfl,rfl,rfl,rfl,rfl,rfl⟩ af ?_ w hH rfl;generalize hE:(⟨aG _,_,_,_⟩:Env)=E;have ep:E.post=φ:=by rw[<- hE]
  have ei:E.inv=(Zn h sl l at_ x.z fuel ks):=by rw[<- hE]
  have em:E.meas=(fun _ C=>rest l at_ x.z C):=by rw[<- hE]
  clear hE;unfold LV;rw[aC];refine⟨by simp[go_sem];omega,?_⟩;rw[ae];refine bI ?_ ?_
  . rw[ei];exact⟨fuel,(at_:Int)+1,[],ks,⟨none,0,0⟩,h,rfl,fun _ _ h=>h,.inl ⟨rfl,rfl⟩,rfl,fun y hy=>(by cases hy),hk,rfl,Nat.zero_add _,by omega,by omega⟩
  rw[ei,em];rintro i bb ss v ll pp hh M ⟨j,k,acc,ks',out,hh',hC,hle,ho,hon,hfr,hkp,hks,hj,hk0,hk1⟩ hM;cases hC;have hM':M 0=((at_:Int)+x.z+1 - k).toNat:=hM;have R':=NG.le R hle;obtain⟨b,o,ha⟩:=Rows.nn R' (j:=at_) (by omega);have rz:=Rows.read (off:=3) (m:=1) R' (j:=at_) (by omega) (by omega) ha;rw[show at_*6+3=at_*6+3 from rfl,<- List.drop_drop,jl (by omega),hx2] at rz;rw[aC];refine⟨by simp[go_sem,ha];omega,?_⟩;rw[ai];refine⟨by simp[go_sem,ha],?_⟩;refine rL ⟨[x.z],[],[],[],[],[]⟩ rfl af (by simpa[go_sem,ha,Ng.cs] using rz) ?_;rw[ai];refine⟨by simp[go_sem];omega,?_⟩;by_cases hks2:k<=at_+x.z;rotate_left
  . rw[ah,if_neg (by simpa[go_sem] using hks2),ae,ax,ep];have:ks'=[]:=by
     cases j with
     | zero=>rw[iI,if_neg hks2] at hkp;cases hkp;rfl
     | succ j=>rw[iI,if_neg hks2] at hkp;cases hkp;rfl
    subst this;rw[List.append_nil] at hks;subst hks;exact hφ out hh hle ho hon
  cases j with
  | zero=>rw[iI,if_pos hks2] at hkp;cases hkp
  | succ j=>
    rw[iI,if_pos hks2] at hkp;split at hkp;rotate_left
    . cases hkp
    rename_i hb;obtain⟨b0,b1,b2,b3⟩:=hb;obtain⟨ks2,hk2,rfl⟩:=Option.map_eq_some_iff.1 hkp;obtain⟨kn,rfl⟩:∃ kn:Nat,k=kn:=⟨k.toNat,by omega⟩;have hkl:kn<l.length:=by omega
    have hy:l.getD ((kn:Int)).toNat ⟨0,0,0,0,0,[]⟩=l[kn]:=by simp[List.getD_eq_getElem?_getD,hkl]
    rw[hy] at hk2 b2 b3;rw[ah,if_pos (by simpa[go_sem] using hks2),ae,aK];intro bb hbb;have hbb':hh bb=none:=hbb;rw[ae,cu];have hle2:=fE hbb' ⟨[Value.int .i64 (kn:Int)],3⟩;refine⟨qN acc,qN [(kn:Int)],yV ho hle2,.inr ⟨by simp[go_sem],?_⟩,?_,?_,?_,?_⟩
    . simp[go_sem,qN]
    . intro u hu;simp[qN] at hu;subst hu;rfl
    . show out.n+1<=maxLen;unfold maxLen;omega
    . show (out.n+1)*8<=_;omega
    intro s' k' g1 g2 g3 g4;have g2':s'.n=out.n+1:=g2;have hle3:dA h k':=fun c oo hc=>g4 c oo (fun y hy e=>by
     have:=hfr y hy;rw[e,hc] at this;cases this) (hle2 _ _ (hle _ _ hc))
    have R3:=NG.le R hle3;have rk:=Rows.read (off:=3) (m:=1) R3 (j:=kn) (by omega) (by omega) ha;rw[<- List.drop_drop,jl (by omega)] at rk;generalize l[kn]=y at *;rw[aC];refine⟨by simp[go_sem,ha];omega,?_⟩;rw[ai];refine⟨by simp[go_sem,ha],?_⟩;refine rL ⟨[y.z],[],[],[],[],[]⟩ rfl af (by simpa[go_sem,ha,Ng.cs] using rk) ?_;rw[ai];refine⟨by simp[go_sem];omega,?_⟩;rw[ai];refine⟨by simp[go_sem];omega,?_⟩;rw[ae,says_again,ei,em];refine⟨?_,?_⟩
    . refine⟨j,(kn:Int)+(1+y.z),acc++[(kn:Int)],ks2,s',k',rfl,hle3,by rw[xH];exact g1,by rw[g2',hon];simp,fun q hq=>?_,hk2,by rw[hks];simp,by simp;omega,by omega,by omega⟩;rcases g3 q hq with ⟨q2,hq2,e⟩ | hn2
      . rw[<- e];exact hfr q2 hq2
      . cases hh2:h q.1 with
        | none=>rfl
        | some oo=>
          have:(hh.set bb ⟨[Value.int .i64 (kn:Int)],3⟩) q.1=none:=hn2;rw[hle2 _ _ (hle _ _ hh2)] at this;cases this
    . show (((at_:Int)+x.z+1 - ((kn:Int)+(1+y.z))).toNat)<M 0;omega
def F6:Fm:=(.N (.R (.add (.x 0) (.c 1)))
 (.loop 0 ⟨[(.add (.x 0) (.c 1))],[],[],[],[.nil],[]⟩
 (.Z 0
 (.Z 0
 (.O (.pt 0 0) 1 [(.sl (.x 1))] ⟨0,0,0,0,1,0⟩
 (.N (.X (.x 0) (.x 1))
 (.N (.nns (.x 1))
 (.O (.el (.x 1) (.x 0) 6 3) 1 [.J 2] ⟨1,0,0,0,0,0⟩
 (.N (.R (.add (.x 0) (.x 2)))
 (.ite (.le (.x 1) (.add (.x 0) (.x 2)))
 (.mk [.J 1] 3 1
 (.app (.x 0) (.x 2) 1 8 3
 (.Z 0
 (.Z 0
 (.O (.pt 0 0) 1 [(.sl (.x 4))] ⟨0,0,0,0,1,0⟩
 (.N (.X (.x 1) (.x 4))
 (.N (.nns (.x 4))
 (.O (.el (.x 4) (.x 1) 6 3) 1 [.J 3] ⟨1,0,0,0,0,0⟩
 (.N (.R (.add (.c 1) (.x 3)))
 (.N (.R (.add (.x 1) (.add (.c 1) (.x 3))))
 (.again 0 ⟨1,0,0,0,0,1⟩ ⟨2,0,0,0,1,1⟩ ⟨[(.add (.x 1) (.add (.c 1) (.x 3)))],[],[],[],[(.x 3)],[]⟩)))))))))))
 (.ret (.p (.L 0)))))))))))))
theorem Qg:aZ ⟨true,[]⟩ Tryz.prog (fun l=>([⟨[5,6],[9,10,11,12,13,14,15,16,17,18,19,20,32,33,34,35,21,22,23,24,25,26,27,28,29,30,31],[]⟩]:List bK).getD l ⟨[],[],[]⟩) Tryz.f38=F6:=by kernel_rfl
theorem WW:az Tryz.prog .zero Tryz.f38.params.toList=some ([.P 0,.J 0],⟨1,0,0,0,0,1⟩):=by kernel_rfl
def aec (h:Hp) (b0:Nat) (l:List Ng) (at_:Nat) (z:Int) (fuel:Nat) (ks:List Int) (_:Nat) (C:Ctx):Prop:=
 ∃ (j:Nat) (k:Int) (acc ks':List Int) (out:bM) (hh:Hp),C=⟨[at_,k],[],[],[],[out],[some (b0,0)],hh,df⟩/\dA h hh/\eF hh out (qN acc) 3 1/\out.n=acc.length/\(∀ y,out.a=some y->h y.1=none)/\iI l (at_+z) j k=some ks'/\ks=acc++ks'/\acc.length+j=fuel/\-1<=k/\k<=3000000
set_option maxHeartbeats 4000000 in
def jR:Ct Tryz.prog where
 f:=38
 spec:=fun args h φ=>∃ b0 sl l at_ z fuel ks r T,args=[.pointer (some ⟨b0,0,none⟩),.int .i64 (at_:Nat)]/\h b0=some ⟨bM.val sl::r,T⟩/\NG h sl l/\l.length<=1000000/\fuel<=1000000/\(∃ x:Ng,l[at_]? = some x/\x.z=z)/\0<=z/\z<=l.length/\iI l (at_+z) fuel (at_+1)=some ks/\
  ∀ sl' k,dA h k->eF k sl' (qN ks) 3 1->sl'.n=ks.length->φ sl'.val k
 ok:=by
  rintro args h φ w ⟨b0,sl,l,at_,z,fuel,ks,r,T,rfl,hb0,R,hl,hf,⟨x,hx,rfl⟩,z0,z1,hk,hφ⟩ hH;have hn:=NG.n R;obtain⟨hat,hx2⟩:=List.getElem?_eq_some_iff.1 hx;refine bn Tryz.func38 Qg WW [] φ (aec h b0 l at_ x.z fuel ks) (fun _ C=>rest l at_ x.z C) ⟨[(at_:Int)],[],[],[],[],[some (b0,0)],h,df⟩ ⟨rfl,rfl,rfl,rfl,rfl,rfl⟩ af ?_ w hH rfl;generalize hE:(⟨aG _,_,_,_⟩:Env)=E;have ep:E.post=φ:=by rw[<- hE]
  have ei:E.inv=(aec h b0 l at_ x.z fuel ks):=by rw[<- hE]
  have em:E.meas=(fun _ C=>rest l at_ x.z C):=by rw[<- hE]
  clear hE;unfold F6;rw[aC];refine⟨by simp[go_sem];omega,?_⟩;rw[ae];refine bI ?_ ?_
  . rw[ei];exact⟨fuel,(at_:Int)+1,[],ks,⟨none,0,0⟩,h,rfl,fun _ _ h=>h,.inl ⟨rfl,rfl⟩,rfl,fun y hy=>(by cases hy),hk,rfl,Nat.zero_add _,by omega,by omega⟩
  rw[ei,em];rintro i bb ss v ll pp hh M ⟨j,k,acc,ks',out,hh',hC,hle,ho,hon,hfr,hkp,hks,hj,hk0,hk1⟩ hM;cases hC;have hM':M 0=((at_:Int)+x.z+1 - k).toNat:=hM;have R':=NG.le R hle;have hb1:=hle _ _ hb0;obtain⟨b,o,ha⟩:=Rows.nn R' (j:=at_) (by omega);have rz:=Rows.read (off:=3) (m:=1) R' (j:=at_) (by omega) (by omega) ha;rw[show at_*6+3=at_*6+3 from rfl,<- List.drop_drop,jl (by omega),hx2] at rz;rw[aC];refine⟨by simp[go_sem],?_⟩;rw[ai];refine⟨by simp[go_sem],?_⟩;refine rL ⟨[],[],[],[],[sl],[]⟩ rfl af (by simp[go_sem,bz hb1]) ?_;rw[ai];refine⟨by simp[go_sem,ha];omega,?_⟩;rw[ai];refine⟨by simp[go_sem,ha],?_⟩;refine rL ⟨[x.z],[],[],[],[],[]⟩ rfl af (by simpa[go_sem,ha,Ng.cs] using rz) ?_;rw[ai];refine⟨by simp[go_sem];omega,?_⟩;by_cases hks2:k<=at_+x.z;rotate_left
  . rw[ah,if_neg (by simpa[go_sem] using hks2),ae,ax,ep];have:ks'=[]:=by
     cases j with
     | zero=>rw[iI,if_neg hks2] at hkp;cases hkp;rfl
     | succ j=>rw[iI,if_neg hks2] at hkp;cases hkp;rfl
    subst this;rw[List.append_nil] at hks;subst hks;exact hφ out hh hle ho hon
  cases j with
  | zero=>rw[iI,if_pos hks2] at hkp;cases hkp
  | succ j=>
    rw[iI,if_pos hks2] at hkp;split at hkp;rotate_left
    . cases hkp
    rename_i hb;obtain⟨b0',b1,b2,b3⟩:=hb;obtain⟨ks2,hk2,rfl⟩:=Option.map_eq_some_iff.1 hkp;obtain⟨kn,rfl⟩:∃ kn:Nat,k=kn:=⟨k.toNat,by omega⟩;have hkl:kn<l.length:=by omega
    have hy:l.getD ((kn:Int)).toNat ⟨0,0,0,0,0,[]⟩=l[kn]:=by simp[List.getD_eq_getElem?_getD,hkl]
    rw[hy] at hk2 b2 b3;rw[ah,if_pos (by simpa[go_sem] using hks2),ae,aK];intro bb hbb;have hbb':hh bb=none:=hbb;rw[ae,cu];have hle2:=fE hbb' ⟨[Value.int .i64 (kn:Int)],3⟩;refine⟨qN acc,qN [(kn:Int)],yV ho hle2,.inr ⟨by simp[go_sem],?_⟩,?_,?_,?_,?_⟩
    . simp[go_sem,qN]
    . intro u hu;simp[qN] at hu;subst hu;rfl
    . show out.n+1<=maxLen;unfold maxLen;omega
    . show (out.n+1)*8<=_;omega
    intro s' k' g1 g2 g3 g4;have g2':s'.n=out.n+1:=g2;have hle3:dA h k':=fun c oo hc=>g4 c oo (fun y hy e=>by
     have:=hfr y hy;rw[e,hc] at this;cases this) (hle2 _ _ (hle _ _ hc))
    have R3:=NG.le R hle3;have hb3:=hle3 _ _ hb0;have rk:=Rows.read (off:=3) (m:=1) R3 (j:=kn) (by omega) (by omega) ha;rw[<- List.drop_drop,jl (by omega)] at rk;generalize l[kn]=y at *;rw[aC];refine⟨by simp[go_sem],?_⟩;rw[ai];refine⟨by simp[go_sem],?_⟩;refine rL ⟨[],[],[],[],[sl],[]⟩ rfl af (by simp[go_sem,bz hb3]) ?_;rw[ai];refine⟨by simp[go_sem,ha];omega,?_⟩;rw[ai];refine⟨by simp[go_sem,ha],?_⟩;refine rL ⟨[y.z],[],[],[],[],[]⟩ rfl af (by simpa[go_sem,ha,Ng.cs] using rk) ?_;rw[ai];refine⟨by simp[go_sem];omega,?_⟩;rw[ai];refine⟨by simp[go_sem];omega,?_⟩;rw[ae,says_again,ei,em];refine⟨?_,?_⟩
    . refine⟨j,(kn:Int)+(1+y.z),acc++[(kn:Int)],ks2,s',k',rfl,hle3,by rw[xH];exact g1,by rw[g2',hon];simp,fun q hq=>?_,hk2,by rw[hks];simp,by simp;omega,by omega,by omega⟩;rcases g3 q hq with ⟨q2,hq2,e⟩ | hn2
      . rw[<- e];exact hfr q2 hq2
      . cases hh2:h q.1 with
        | none=>rfl
        | some oo=>
          have:(hh.set bb ⟨[Value.int .i64 (kn:Int)],3⟩) q.1=none:=hn2;rw[hle2 _ _ (hle _ _ hh2)] at this;cases this
    . show (((at_:Int)+x.z+1 - ((kn:Int)+(1+y.z))).toNat)<M 0;omega
def F7:Fm:=(.Z 0
 (.Z 0
 (.O (.pt 0 0) 1 [(.sl (.x 0))] ⟨0,0,0,0,1,0⟩
 (.N (.X (.x 0) (.x 0))
 (.O (.el (.x 0) (.x 0) 6 0) 6 [.U 1,.J 2,.J 3,.J 4,.J 5,(.s (.x 0))] ⟨5,0,1,0,0,0⟩
 (.ite (.eqI (.x 1) (.c 15))
 (.ret (.p (.W [105,110,116])))
 (.ite (.eqI (.x 1) (.c 16))
 (.ret (.p (.W [98,111,111,108])))
 (.ite (.eqI (.x 1) (.c 17))
 (.ret (.p (.W [115,116,114])))
 (.ite (.eqI (.x 1) (.c 18))
 (.ret (.p (.W [99,111,109,112])))
 (.ite (.eqI (.x 1) (.c 19))
 (.ret (.p (.S 0)))
 (.N (.R (.add (.x 0) (.c 1)))
 (.C 28 [.P 0,(.I (.add (.x 0) (.c 1)))] (.p (.S 1)) ⟨0,0,1,0,0,0⟩
 (.N (.le (.add (.len (.c [91])) (.len (.x 1))) (.c 9223372036854775807))
 (.N (.le (.add (.len (.app (.c [91]) (.x 1))) (.len (.c [93]))) (.c 9223372036854775807))
 (.ret (.p (.one (.s (.app (.app (.c [91]) (.x 1)) (.c [93]))))))))))))))))))))
theorem Qh:aZ ⟨true,[]⟩ Tryz.prog (fun l=>([]:List bK).getD l ⟨[],[],[]⟩) Tryz.f28=F7:=by kernel_rfl
theorem WX:az Tryz.prog .zero Tryz.f28.params.toList=some ([.P 0,.J 0],⟨1,0,0,0,0,1⟩):=by kernel_rfl
def pU (l:List Ng):Nat->Nat->Option (List UInt8)
 | 0,_=>none
 | n+1,i=>match l[i]? with
   | none=>none
   | some x=>if x.k=15 then some [105,110,116] else if x.k=16 then some [98,111,111,108] else if x.k=17 then some [115,116,114] else if x.k=18 then some [99,111,109,112] else if x.k=19 then some x.x
     else (pU l n (i+1)).map fun s=>91::(s++[93])
def Zo (n:Nat) (args:List Value) (h:Hp) (φ:Value->Hp->Prop):Prop:=
 ∃ b0 sl l i s r T,args=[.pointer (some ⟨b0,0,none⟩),.int .i64 (i:Nat)]/\h b0=some ⟨bM.val sl::r,T⟩/\NG h sl l/\l.length<=1000000/\pU l n i=some s/\s.length<=1000000000000/\φ (.string (B s)) h
def Rx (n:Nat):Prop:=∀ args h φ w,Zo n args h φ->Holds h w->Calls Tryz.prog 28 args.toArray w fun e w'=>∃ v k,e=.returned v/\φ v k/\Holds k w'/\Fr w.heap.size h k w w'
def lJ {n:Nat} (H:Rx n):Ct Tryz.prog:=⟨28,Zo n,H⟩
set_option maxHeartbeats 4000000 in
theorem kQ:∀ n,Rx n
 | 0=>by
   rintro args h φ w ⟨b0,sl,l,i,s,r,T,rfl,hb0,R,hl,hk,_⟩ hH;cases hk
 | n+1=>by
   have ih:=kQ n;rintro args h φ w ⟨b0,sl,l,i,s,r,T,rfl,hb0,R,hl,hk,hsl,hφ⟩ hH;refine bn Tryz.func28 Qh WX [lJ ih] φ (bP) (bu) ⟨[(i:Int)],[],[],[],[],[some (b0,0)],h,df⟩ ⟨rfl,rfl,rfl,rfl,rfl,rfl⟩ af ?_ w hH rfl;generalize hE:(⟨aG _,_,_,_⟩:Env)=E;have sa0:E.spec 28=(lJ ih).spec:=by rw[<- hE];rfl
   have ep:E.post=φ:=by rw[<- hE]
   clear hE;unfold F7;have hn:=NG.n R;rw[pU] at hk;cases hx:l[i]? with
   | none=>rw[hx] at hk;cases hk
   | some x=>
     rw[hx] at hk;simp only at hk;obtain⟨hat,hx2⟩:=List.getElem?_eq_some_iff.1 hx;obtain⟨b,o,ha⟩:=Rows.nn R (j:=i) (by omega);have rz:=NG.node R hat ha;rw[hx2] at rz;rw[aC];refine⟨by simp[go_sem],?_⟩;rw[ai];refine⟨by simp[go_sem],?_⟩;refine rL ⟨[],[],[],[],[sl],[]⟩ rfl af (by simp[go_sem,bz hb0]) ?_;rw[ai];refine⟨by simp[go_sem,ha];omega,?_⟩;refine rL ⟨[x.k,x.l,x.c,x.z,x.n],[],[x.x],[],[],[]⟩ rfl af (by simpa[go_sem,ha,Ng.cs] using rz) ?_;by_cases c1:x.k=15
     . rw[if_pos c1] at hk;cases hk;rw[ah,if_pos (by simpa[go_sem] using c1),ae,ax,ep];exact hφ
     rw[if_neg c1] at hk;rw[ah,if_neg (by simpa[go_sem] using c1)];by_cases c2:x.k=16
     . rw[if_pos c2] at hk;cases hk;rw[ah,if_pos (by simpa[go_sem] using c2),ae,ax,ep];exact hφ
     rw[if_neg c2] at hk;rw[ah,if_neg (by simpa[go_sem] using c2)];by_cases c3:x.k=17
     . rw[if_pos c3] at hk;cases hk;rw[ah,if_pos (by simpa[go_sem] using c3),ae,ax,ep];exact hφ
     rw[if_neg c3] at hk;rw[ah,if_neg (by simpa[go_sem] using c3)];by_cases c4:x.k=18
     . rw[if_pos c4] at hk;cases hk;rw[ah,if_pos (by simpa[go_sem] using c4),ae,ax,ep];exact hφ
     rw[if_neg c4] at hk;rw[ah,if_neg (by simpa[go_sem] using c4)];by_cases c5:x.k=19
     . rw[if_pos c5] at hk;cases hk;rw[ah,if_pos (by simpa[go_sem] using c5),ae,ax,ep];exact hφ
     rw[if_neg c5] at hk;rw[ah,if_neg (by simpa[go_sem] using c5),ae,aC];refine⟨by simp[go_sem];omega,?_⟩;obtain⟨s2,hk2,rfl⟩:=Option.map_eq_some_iff.1 hk;rw[List.length_cons,List.length_append,List.length_cons,List.length_nil] at hsl;rw[ag,sa0];refine⟨b0,sl,l,i+1,s2,r,T,rfl,hb0,R,hl,hk2,by omega,?_⟩;refine rR ⟨[],[],[s2],[],[],[]⟩ rfl af rfl ?_;rw[ai];refine⟨by simp[go_sem];omega,?_⟩;rw[ai];refine⟨by simp[go_sem];omega,?_⟩;rw[ak,ep];exact hφ
end
section
attribute [local go_sem] abN gm jr ku rZ BC
def nT (l:List UInt8):Nat:=l.foldl (fun n c=>10*n+(c.toNat - 48)) 0
def lV (c:UInt8):Bool:=decide (48<=c.toNat)&&decide (c.toNat<=57)
theorem Hq (l:List UInt8) (c:UInt8):nT (l++[c])=10*nT l+(c.toNat - 48):=by simp[nT]
theorem take_snoc (d:List UInt8) (k:Nat) (h:k<d.length):d.take (k+1)=d.take k++[d[k]]:=by
 rw[List.take_succ_eq_append_getElem h]
theorem rM (d:List UInt8) (k:Nat) (h:k<d.length):bt d k=(d[k].toNat:Int):=by
 simp[bt,h]
def rV (neg:Bool) (d:List UInt8):Int×Int:=
 if d.all lV then
  (if neg then (if nT d<=9223372036854775808 then (-(nT d:Int),0) else (0,14)) else (if nT d<9223372036854775808 then ((nT d:Int),0) else (0,14)))
 else (0,2)
def pv (l:List UInt8):Int×Int:=
 match l with
 | []=>(0,2)
 | c::d=>if c=45 then (if d=[]\/d.head? = some 48 then (0,2) else rV true d) else (if c=48/\d≠[] then (0,2) else rV false (c::d))
structure JJ (d:List UInt8) (k x:Nat) (o:Bool):Prop where
 dig:(d.take k).all lV=true
 le:x<=9223372036854775808
 eq:o=false->x=nT (d.take k)
 big:o=true->9223372036854775808<nT (d.take k)
theorem DV (d:List UInt8):JJ d 0 0 false:=⟨by simp,by omega,by simp[nT],by simp⟩
theorem xR {d:List UInt8} {k:Nat} (hk:k<d.length) (h:bt d k<48\/57<bt d k) (neg:Bool):rV neg d=(0,2):=by
 have hn:¬ (d.all lV=true):=by
  rw[List.all_eq_true];intro hall;have:=hall d[k] (List.getElem_mem hk);rw[rM d k hk] at h;simp[lV] at this;omega
 unfold rV;rw[if_neg hn]
theorem NE {d:List UInt8} {k:Nat} (hk:k<d.length) (h0:48<=bt d k) (h1:bt d k<=57) (h:(d.take k).all lV=true):(d.take (k+1)).all lV=true:=by
 rw[take_snoc d k hk,List.all_append,h];rw[rM d k hk] at h0 h1;simp[lV];omega
theorem GU {d:List UInt8} {k:Nat} (hk:k<d.length) (h0:48<=bt d k):(nT (d.take (k+1)):Int)=10*(nT (d.take k):Int)+(bt d k - 48):=by
 rw[take_snoc d k hk,Hq,rM d k hk];rw[rM d k hk] at h0;omega
theorem GR {d:List UInt8} {k x:Nat} {o:Bool} (hk:k<d.length) (h0:48<=bt d k) (h1:bt d k<=57) (hi:JJ d k x o) (ht:-(x:Int)<(-9223372036854775808+(bt d k - 48)).tdiv 10):JJ d (k+1) x true:=by
 have hv:=GU hk h0;refine⟨NE hk h0 h1 hi.dig,hi.le,by simp,fun _=>?_⟩;cases o with
 | true=>have:=hi.big rfl;omega
 | false=>
   have:=hi.eq rfl;have e:(-9223372036854775808+(bt d k - 48)).tdiv 10=-((9223372036854775808 - (bt d k - 48)) / 10):=by
    rw[show (-9223372036854775808+(bt d k - 48))=-(9223372036854775808 - (bt d k - 48)) by omega,Int.neg_tdiv,Int.tdiv_eq_ediv_of_nonneg (by omega)]
   rw[e] at ht;omega
theorem GN {d:List UInt8} {k x:Nat} {o:Bool} (hk:k<d.length) (h0:48<=bt d k) (h1:bt d k<=57) (hi:JJ d k x o) (ht:(-9223372036854775808+(bt d k - 48)).tdiv 10<=-(x:Int)):
 ∃ y:Nat,wrap64 (wrap64 (10 * -(x:Int)) - (bt d k - 48))=-(y:Int)/\JJ d (k+1) y o:=by
 have hv:=GU hk h0;have e:(-9223372036854775808+(bt d k - 48)).tdiv 10=-((9223372036854775808 - (bt d k - 48)) / 10):=by
  rw[show (-9223372036854775808+(bt d k - 48))=-(9223372036854775808 - (bt d k - 48)) by omega,Int.neg_tdiv,Int.tdiv_eq_ediv_of_nonneg (by omega)]
 rw[e] at ht;have hle:=hi.le;refine⟨(10*(x:Int)+(bt d k - 48)).toNat,?_,NE hk h0 h1 hi.dig,by omega,fun h=>?_,fun h=>?_⟩
 . unfold wrap64;omega
 . have:=hi.eq h;omega
 . have:=hi.big h;omega
theorem qh {d:List UInt8} {k x:Nat} {o:Bool} (hk:¬ k<d.length) (hi:JJ d k x o):d.all lV=true/\(o=false->x=nT d)/\(o=true->9223372036854775808<nT d):=by
 have h:=hi.dig;have h2:=hi.eq;have h3:=hi.big;rw[List.take_of_length_le (by omega)] at h h2 h3;exact⟨h,h2,h3⟩
theorem jP {p:Int×Int} {a b:Int} (h:p=(a,b)):Ending.returned (.tuple #[.int .i64 a,.int .i64 b])=.returned (.tuple #[.int .i64 p.1,.int .i64 p.2]):=by rw[h]
set_option maxHeartbeats 1000000 in
theorem QC (d:List UInt8) (w:World) (hl:d.length<1000000) (hne:¬ d=[]) (h0:(bt d 0==48)=false):
 Calls Tryz.prog 120 #[.string (B (45::d))] w fun e w'=>e=.returned (.tuple #[.int .i64 (rV true d).1,.int .i64 (rV true d).2])/\w=w':=by
 have hne':d.isEmpty=false:=by simp[hne]
 have hpos:0<d.length:=List.length_pos_iff.2 hne;have hb:bt (45::d) 0=45:=by simp[bt]
 go_enter Tryz.func120,Tryz.ntmps120
 go_wp2_with fail
 go_loop [6,7,39] (fun n ov i=>∃ (k x:Nat) (o:Bool),k<=d.length/\x<=9223372036854775808/\JJ d k x o/\i=.int .i64 k/\n=.int .i64 (-(x:Int))/\ov=.bool o) (fun _ _ i=>d.length - (intOf i).toNat)
 case atStart=>exact⟨0,0,false,by omega,by omega,DV d,rfl,rfl,rfl⟩
 case round=>
  obtain⟨k,x,o,hk,hx,hi,rfl,rfl,rfl⟩:=hrel;have hb0:=adS d k;have hb1:=adR d k
  go_wp2
  . have hlt:k<d.length:=by assumption
    go_ret2
    exact⟨jP (xR hlt (by omega) true),rfl⟩
  . have hlt:k<d.length:=by assumption
    go_round
    case rel=>exact⟨k+1,x,true,by omega,hx,GR hlt (by omega) (by omega) hi (by assumption),by go_num,rfl,rfl⟩
    case measure=>simp[intOf];omega
  . have hlt:k<d.length:=by assumption
    obtain⟨y,hy,hi'⟩:=GN hlt (by omega) (by omega) hi (by assumption)
    go_round
    case rel=>exact⟨k+1,y,o,by omega,hi'.le,hi',by go_num,by rw[hy],rfl⟩
    case measure=>simp[intOf];omega
  . have hlt:k<d.length:=by assumption
    go_ret2
    exact⟨jP (xR hlt (by omega) true),rfl⟩
  . have hlt:¬ k<d.length:=by assumption
    obtain⟨e1,e2,e3⟩:=qh hlt hi;have:=e3 (by assumption)
    go_ret2
    exact⟨jP (by unfold rV;rw[if_pos e1,if_pos rfl,if_neg (by omega)]),rfl⟩
  . have hlt:¬ k<d.length:=by assumption
    obtain⟨e1,e2,e3⟩:=qh hlt hi;have ho:¬ o=true:=by assumption
    have:=e2 (by simpa using ho)
    go_ret2
    exact⟨jP (by unfold rV;rw[if_pos e1,if_pos rfl,if_pos (by omega)];congr 1;omega),rfl⟩
  . have hlt:¬ k<d.length:=by assumption
    obtain⟨e1,e2,e3⟩:=qh hlt hi;have ho:¬ o=true:=by assumption
    have:=e2 (by simpa using ho)
    go_ret2
    exact⟨jP (by unfold rV;rw[if_pos e1,if_pos rfl,if_pos (by omega)];congr 1;omega),rfl⟩
set_option maxHeartbeats 1000000 in
theorem QE (d:List UInt8) (w:World) (hl:d.length<1000000) (hne:¬ d=[]) (h45:(bt d 0==45)=false) (h0:(bt d 0==48)=false):
 Calls Tryz.prog 120 #[.string (B d)] w fun e w'=>e=.returned (.tuple #[.int .i64 (rV false d).1,.int .i64 (rV false d).2])/\w=w':=by
 have hne':d.isEmpty=false:=by simp[hne]
 have hpos:0<d.length:=List.length_pos_iff.2 hne
 go_enter Tryz.func120,Tryz.ntmps120
 go_wp2_with fail
 go_loop [6,7,39] (fun n ov i=>∃ (k x:Nat) (o:Bool),k<=d.length/\x<=9223372036854775808/\JJ d k x o/\i=.int .i64 k/\n=.int .i64 (-(x:Int))/\ov=.bool o) (fun _ _ i=>d.length - (intOf i).toNat)
 case atStart=>exact⟨0,0,false,by omega,by omega,DV d,rfl,rfl,rfl⟩
 case round=>
  obtain⟨k,x,o,hk,hx,hi,rfl,rfl,rfl⟩:=hrel;have hb0:=adS d k;have hb1:=adR d k
  go_wp2
  . have hlt:k<d.length:=by assumption
    go_ret2
    exact⟨jP (xR hlt (by omega) false),rfl⟩
  . have hlt:k<d.length:=by assumption
    go_round
    case rel=>exact⟨k+1,x,true,by omega,hx,GR hlt (by omega) (by omega) hi (by assumption),by go_num,rfl,rfl⟩
    case measure=>simp[intOf];omega
  . have hlt:k<d.length:=by assumption
    obtain⟨y,hy,hi'⟩:=GN hlt (by omega) (by omega) hi (by assumption)
    go_round
    case rel=>exact⟨k+1,y,o,by omega,hi'.le,hi',by go_num,by rw[hy],rfl⟩
    case measure=>simp[intOf];omega
  . have hlt:k<d.length:=by assumption
    go_ret2
    exact⟨jP (xR hlt (by omega) false),rfl⟩
  . have hlt:¬ k<d.length:=by assumption
    obtain⟨e1,e2,e3⟩:=qh hlt hi;have:=e3 (by assumption)
    go_ret2
    exact⟨jP (by unfold rV;rw[if_pos e1,if_neg (by decide),if_neg (by omega)]),rfl⟩
  . have hlt:¬ k<d.length:=by assumption
    obtain⟨e1,e2,e3⟩:=qh hlt hi;have ho:¬ o=true:=by assumption
    have:=e2 (by simpa using ho)
    go_ret2
    exact⟨jP (by unfold rV;rw[if_pos e1,if_neg (by decide),if_neg (by omega)]),rfl⟩
  . have hlt:¬ k<d.length:=by assumption
    obtain⟨e1,e2,e3⟩:=qh hlt hi;have ho:¬ o=true:=by assumption
    have:=e2 (by simpa using ho)
    go_ret2
    exact⟨jP (by unfold rV;rw[if_pos e1,if_neg (by decide),if_pos (by omega)];congr 1;omega),rfl⟩
set_option maxHeartbeats 1000000 in
theorem Nq (w:World):
 Calls Tryz.prog 120 #[.string (B [48])] w fun e w'=>e=.returned (.tuple #[.int .i64 0,.int .i64 0])/\w=w':=by
 have hb:bt [48] 0=48:=by simp[bt]
 go_enter Tryz.func120,Tryz.ntmps120
 go_wp2
 refine wp_loop_rounds 2 ?_
 repeat (rw[rounds_succ];go_wp2)
 go_ret2
 exact⟨rfl,rfl⟩
set_option maxHeartbeats 1000000 in
theorem QD (w:World):
 Calls Tryz.prog 120 #[.string (B [])] w fun e w'=>e=.returned (.tuple #[.int .i64 0,.int .i64 2])/\w=w':=by
 go_enter Tryz.func120,Tryz.ntmps120
 go_wp2
 go_ret2
 exact⟨rfl,rfl⟩
set_option maxHeartbeats 1000000 in
theorem DL (d:List UInt8) (w:World) (hl:d.length<1000000) (h:d=[]\/bt d 0=48):
 Calls Tryz.prog 120 #[.string (B (45::d))] w fun e w'=>e=.returned (.tuple #[.int .i64 0,.int .i64 2])/\w=w':=by
 have hb:bt (45::d) 0=45:=by simp[bt]
 by_cases hne:d=[]
 . subst hne
   go_enter Tryz.func120,Tryz.ntmps120
   go_wp2
   go_ret2
   exact⟨rfl,rfl⟩
 . have h48:bt d 0=48:=h.resolve_left hne;have hne':d.isEmpty=false:=by simp[hne]
   have hpos:0<d.length:=List.length_pos_iff.2 hne;clear h
   go_enter Tryz.func120,Tryz.ntmps120
   go_wp2
   go_ret2
   exact⟨rfl,rfl⟩
set_option maxHeartbeats 1000000 in
theorem DN (d:List UInt8) (w:World) (hl:d.length<1000000) (h1:1<d.length) (h48:bt d 0=48):
 Calls Tryz.prog 120 #[.string (B d)] w fun e w'=>e=.returned (.tuple #[.int .i64 0,.int .i64 2])/\w=w':=by
 have hne':d.isEmpty=false:=by cases d;simp at h1;rfl
 go_enter Tryz.func120,Tryz.ntmps120
 go_wp2
 go_ret2
 exact⟨rfl,rfl⟩
theorem QB (l:List UInt8) (w:World) (hl:l.length<1000000):
 Calls Tryz.prog 120 #[.string (B l)] w fun e w'=>e=.returned (.tuple #[.int .i64 (pv l).1,.int .i64 (pv l).2])/\w=w':=by
 match l with
 | []=>exact QD w
 | c::d=>
   have hlen:d.length<1000000:=by simp at hl;omega
   by_cases hc:c=45
   . subst hc;by_cases hd:d=[]\/d.head? = some 48
     . have e:pv (45::d)=(0,2):=by simp only[pv,if_true,if_pos hd]
       rw[e];refine DL d w hlen ?_;rcases hd with hd | hd
       . exact Or.inl hd
       . right;cases d with
         | nil=>simp at hd
         | cons x y=>simp at hd;subst hd;simp[bt]
     . have e:pv (45::d)=rV true d:=by simp only[pv,if_true,if_neg hd]
       rw[e];have hne:¬ d=[]:=fun h=>hd (Or.inl h)
       refine QC d w hlen hne ?_;cases d with
       | nil=>exact absurd rfl hne
       | cons x y=>
         simp only[fO];simp at hd⊢;intro h;exact hd (UInt8.toNat_inj.1 (by simpa using (by omega:x.toNat=48)))
   . have h45:(bt (c::d) 0==45)=false:=by
      simp only[fO];simp;intro h;exact hc (UInt8.toNat_inj.1 (by simpa using (by omega:c.toNat=45)))
     by_cases h48:c=48
     . subst h48;by_cases hd:d=[]
       . subst hd;have e:pv [48]=(0,0):=by decide
         rw[e];exact Nq w
       . have e:pv (48::d)=(0,2):=by simp[pv,hd]
         rw[e];refine DN _ w hl ?_ (by simp[bt]);have:=List.length_pos_iff.2 hd;simp;omega
     . have e:pv (c::d)=rV false (c::d):=by simp[pv,hc,h48]
       rw[e];refine QE _ w hl (by simp) h45 ?_;simp only[fO];simp;intro h;exact h48 (UInt8.toNat_inj.1 (by simpa using (by omega:c.toNat=48)))
theorem ES (l:List UInt8) (a:Nat):l.foldl (fun n (c:UInt8)=>10*n+(c.toNat - 48)) a=a*10 ^ l.length+nT l:=by
 induction l generalizing a with
 | nil=>simp[nT]
 | cons c l ih=>
   simp only[List.foldl_cons,nT,List.length_cons];rw[ih,ih (10*0+(c.toNat - 48))];rw[Nat.pow_succ,Nat.add_mul,Nat.mul_zero,Nat.zero_add,Nat.add_assoc];congr 1;rw[Nat.mul_comm 10 a,Nat.mul_assoc,Nat.mul_comm 10]
theorem Ho (c:UInt8) (l:List UInt8):nT (c::l)=(c.toNat - 48)*10 ^ l.length+nT l:=by
 show (c::l).foldl _ 0=_;rw[List.foldl_cons,ES];simp
theorem adI (l:List UInt8) (hne:l≠[]) (h:l.all lV=true) (h0:l.head?≠some 48):10 ^ (l.length - 1)<=nT l:=by
 cases l with
 | nil=>exact absurd rfl hne
 | cons c l=>
   simp only[List.all_cons,Bool.and_eq_true] at h;have hc:48<=c.toNat/\c.toNat<=57:=by have:=h.1;simpa[lV] using this
   have hne:c.toNat≠48:=fun e=>h0 (by simp;exact UInt8.toNat_inj.1 (by simpa using e))
   rw[Ho,List.length_cons,Nat.add_sub_cancel];have:1*10 ^ l.length<=(c.toNat - 48)*10 ^ l.length:=Nat.mul_le_mul_right _ (by omega);omega
end
def jh (b:Int):Int:=if (97<=b/\b<=122)\/b=95 then 1 else if 65<=b/\b<=90 then 2 else if 48<=b/\b<=57 then 3 else 0
def inB (b:Int):Bool:=decide (0<jh b)
def kY (b:Int):Bool:=decide (jh b=3)
def UF (b:Int):Bool:=decide (jh b=1)
def OG (b:Int):Bool:=decide (jh b=2)
def DI (b:Int):Bool:=!(b==10)
def rn (p:Int->Bool) (s:List UInt8) (i:Nat):Nat:=((s.drop i).takeWhile fun c=>p c.toNat).length
theorem BX (l:List UInt8) (k:Nat) (h:k<l.length):l.drop k=l[k]::l.drop (k+1):=List.drop_eq_getElem_cons h
theorem jZ {p:Int->Bool} {s:List UInt8} {i:Nat} (h:i<s.length) (hp:p (bt s i)=true):rn p s i=rn p s (i+1)+1:=by
 unfold rn;rw[BX s i h,List.takeWhile_cons,<- rM s i h,if_pos hp];rfl
theorem xY {p:Int->Bool} {s:List UInt8} {i:Nat} (h:i<s.length) (hp:p (bt s i)=false):rn p s i=0:=by
 unfold rn;rw[BX s i h,List.takeWhile_cons,<- rM s i h,if_neg (by rw[hp];decide)];rfl
theorem pq {p:Int->Bool} {s:List UInt8} {i:Nat} (h:s.length<=i):rn p s i=0:=by
 unfold rn;rw[List.drop_eq_nil_of_le h];rfl
theorem D7 {p:Int->Bool} {s:List UInt8} {i:Nat} (h:i<=s.length):i+rn p s i<=s.length:=by
 unfold rn;have:=(List.takeWhile_sublist (l:=s.drop i) (p:=fun c=>p c.toNat)).length_le;rw[List.length_drop] at this;omega
theorem afl {p:Int->Bool} {s:List UInt8} (k:Nat):∀ {i:Nat},k<rn p s i->i+k<s.length/\p (bt s (i+k))=true:=by
 induction k with
 | zero=>
   intro i h;by_cases hi:i<s.length
   . by_cases hq:p (bt s i)=true
     . exact⟨hi,hq⟩
     . rw[xY hi (by simpa using hq)] at h;omega
   . rw[pq (by omega)] at h;omega
 | succ k ih=>
   intro i h;by_cases hi:i<s.length
   . by_cases hq:p (bt s i)=true
     . rw[jZ hi hq] at h;have:=ih (i:=i+1) (by omega);rw[show i+(k+1)=i+1+k by omega];exact this
     . rw[xY hi (by simpa using hq)] at h;omega
   . rw[pq (by omega)] at h;omega
theorem aej {p:Int->Bool} {s:List UInt8} {i j:Nat} (h1:i<=j) (h2:j<i+rn p s i):j<s.length/\p (bt s j)=true:=by
 obtain⟨k,rfl⟩:=Nat.exists_eq_add_of_le h1;exact afl k (by omega)
def UA (b:Int) (note:Bool):Bool:=(note||b==35)&&!(b==10)
def skP (b:Int) (note:Bool):Bool:=note||b==32||b==9||b==13||b==10
def sk:Bool->List UInt8->Nat
 | _,[]=>0
 | note,c::t=>if skP c.toNat (UA c.toNat note) then sk (UA c.toNat note) t+1 else 0
def jU (note:Bool) (s:List UInt8) (i:Nat):Nat:=sk note (s.drop i)
theorem Jr {s:List UInt8} {i:Nat} (h:s.length<=i) (note:Bool):jU note s i=0:=by
 unfold jU;rw[List.drop_eq_nil_of_le h];rfl
theorem wK {s:List UInt8} {i:Nat} (h:i<s.length) (note:Bool):jU note s i=if skP (bt s i) (UA (bt s i) note) then jU (UA (bt s i) note) s (i+1)+1 else 0:=by
 unfold jU;rw[BX s i h,sk,<- rM s i h]
theorem Q9 {s:List UInt8} {i:Nat} (note:Bool) (h:i<=s.length):i+jU note s i<=s.length:=by
 have:∀ (l:List UInt8) (note:Bool),sk note l<=l.length:=by
  intro l
  induction l with
  | nil=>intro note;simp[sk]
  | cons c t ih=>
    intro note;rw[sk];split
    . have:=ih (UA c.toNat note);simp;omega
    . simp
 have:=this (s.drop i) note;rw[List.length_drop] at this;unfold jU;omega
theorem aa2 {s:List UInt8} {i:Nat} (h:i<=s.length):jU true s i=rn DI s i+jU false s (i+rn DI s i):=by
 generalize hn:rn DI s i=n
 induction n generalizing i with
 | zero=>
   rw[Nat.add_zero,Nat.zero_add];by_cases hi:i<s.length
   . rw[wK hi,wK hi];cases hq:DI (bt s i)
     . have:bt s i=10:=by simpa[DI] using hq
       rw[this];rfl
     . rw[jZ hi hq] at hn;omega
   . rw[Jr (by omega),Jr (by omega)]
 | succ n ih=>
   have hi:i<s.length:=by
    by_cases hi:i<s.length
    . exact hi
    . rw[pq (by omega)] at hn;omega
   cases hq:DI (bt s i)
   . rw[xY hi hq] at hn;omega
   . rw[jZ hi hq] at hn;have hne:(bt s i==10)=false:=by simpa[DI] using hq
     rw[wK hi];simp only[UA,skP,hne,Bool.true_or,Bool.not_false,Bool.and_true,if_true];rw[ih (i:=i+1) (by omega) (by omega),show i+(n+1)=i+1+n by omega];omega
theorem aa0 {s:List UInt8} {i:Nat} (h:i<s.length) (hb:bt s i=35):jU false s i=rn DI s i+jU false s (i+rn DI s i):=by
 rw[<- aa2 (by omega),wK h,wK h,hb];rfl
theorem uN {s:List UInt8} {i:Nat} (h:i<s.length) (hb:bt s i=10\/bt s i=32\/bt s i=9\/bt s i=13):jU false s i=jU false s (i+1)+1:=by
 rw[wK h];rcases hb with hb | hb | hb | hb<;>rw[hb]<;>rfl
theorem aa1 {s:List UInt8} {i:Nat} (h:i<s.length) (hb:bt s i≠10/\bt s i≠32/\bt s i≠9/\bt s i≠13/\bt s i≠35):jU false s i=0:=by
 rw[wK h];obtain⟨h1,h2,h3,h4,h5⟩:=hb;simp[UA,skP,h1,h2,h3,h4,h5]
def ad (p:Int×Int) (b:Int):Int×Int:=if b=10 then (p.1+1,1) else (p.1,p.2+1)
def mZ (p:Int×Int) (l:List UInt8):Int×Int:=l.foldl (fun p c=>ad p c.toNat) p
def sub (s:List UInt8) (i j:Nat):List UInt8:=(s.take j).drop i
theorem Eo (s:List UInt8) {i j:Nat} (hi:i<=j) (hj:j<s.length):sub s i (j+1)=sub s i j++[s[j]]:=by
 unfold sub;rw[List.take_succ_eq_append_getElem hj,List.drop_append_of_le_length (by rw[List.length_take];omega)]
theorem yj (s:List UInt8) (i:Nat):sub s i i=[]:=by
 unfold sub;exact List.drop_eq_nil_of_le (by rw[List.length_take];omega)
theorem Bl (s:List UInt8) {i j:Nat} (hj:j<=s.length):(sub s i j).length=j - i:=by
 unfold sub;rw[List.length_drop,List.length_take];omega
theorem sub_sub (s:List UInt8) {i j k:Nat} (h1:i<=j) (h2:j<=k) (h3:k<=s.length):sub s i k=sub s i j++sub s j k:=by
 obtain⟨m,rfl⟩:=Nat.exists_eq_add_of_le h2
 induction m with
 | zero=>rw[Nat.add_zero,yj,List.append_nil]
 | succ m ih=>
   rw[show j+(m+1)=(j+m)+1 by omega,Eo s (by omega) (by omega),Eo s (i:=j) (by omega) (by omega),ih (by omega) (by omega),List.append_assoc]
theorem sH (p:Int×Int) (s:List UInt8) {i j:Nat} (hi:i<=j) (hj:j<s.length):mZ p (sub s i (j+1))=ad (mZ p (sub s i j)) (bt s j):=by
 rw[Eo s hi hj,mZ,List.foldl_append,<- mZ,rM s j hj];rfl
theorem H6 (p:Int×Int) (l m:List UInt8):mZ p (l++m)=mZ (mZ p l) m:=by unfold mZ;rw[List.foldl_append]
theorem Ry (p:Int×Int):mZ p []=p:=rfl
theorem JU (p:Int×Int) (s:List UInt8) {i n:Nat} (hn:i+n<=s.length) (h:∀ j,i<=j->j<i+n->bt s j≠10):mZ p (sub s i (i+n))=(p.1,p.2+n):=by
 induction n with
 | zero=>rw[Nat.add_zero,yj,Ry];simp
 | succ n ih=>
   rw[show i+(n+1)=(i+n)+1 by omega,sH p s (by omega) (by omega),ih (by omega) (fun j h1 h2=>h j h1 (by omega)),ad,if_neg (h _ (by omega) (by omega))];simp;omega
theorem XJ (p:Int×Int) (l:List UInt8) (h1:0<=p.1) (h2:0<=p.2):0<=(mZ p l).1/\(mZ p l).1<=p.1+l.length/\0<=(mZ p l).2/\(mZ p l).2<=max p.2 1+l.length:=by
 induction l generalizing p with
 | nil=>simp[mZ];omega
 | cons c t ih=>
   have hc:mZ p (c::t)=mZ (ad p c.toNat) t:=rfl;have hb:0<=(ad p c.toNat).1/\(ad p c.toNat).1<=p.1+1/\0<=(ad p c.toNat).2/\max (ad p c.toNat).2 1<=max p.2 1+1:=by
    unfold ad;split<;>simp<;>omega
   obtain⟨i1,i2,i3,i4⟩:=ih (ad p c.toNat) hb.1 hb.2.2.1;rw[hc];simp only[List.length_cons];refine⟨i1,by omega,i3,by omega⟩
section
attribute [local go_sem] Fm.says
def LQ:Fm:=(.ret (.p (.one (.b (.or (.and (.le (.c 97) (.x 0)) (.le (.x 0) (.c 122))) (.eqI (.x 0) (.c 95)))))))
theorem VZ:aZ ⟨true,[]⟩ Tryz.prog (fun l=>([]:List bK).getD l ⟨[],[],[]⟩) Tryz.f73=LQ:=by kernel_rfl
theorem aas:az Tryz.prog .zero Tryz.f73.params.toList=some ([(.one (.U 0))],⟨1,0,0,0,0,0⟩):=by kernel_rfl
def KN:Fm:=(.ret (.p (.one (.b (.and (.le (.c 65) (.x 0)) (.le (.x 0) (.c 90)))))))
theorem Vp:aZ ⟨true,[]⟩ Tryz.prog (fun l=>([]:List bK).getD l ⟨[],[],[]⟩) Tryz.f74=KN:=by kernel_rfl
theorem ZQ:az Tryz.prog .zero Tryz.f74.params.toList=some ([(.one (.U 0))],⟨1,0,0,0,0,0⟩):=by kernel_rfl
def KJ:Fm:=(.ret (.p (.one (.b (.and (.le (.c 48) (.x 0)) (.le (.x 0) (.c 57)))))))
theorem Vm:aZ ⟨true,[]⟩ Tryz.prog (fun l=>([]:List bK).getD l ⟨[],[],[]⟩) Tryz.f76=KJ:=by kernel_rfl
theorem ZO:az Tryz.prog .zero Tryz.f76.params.toList=some ([(.one (.U 0))],⟨1,0,0,0,0,0⟩):=by kernel_rfl
def KO:Fm:=(.C 73 [(.one (.U 0))] (.p (.B 0)) ⟨0,1,0,0,0,0⟩
 (.call (.not (.x 0)) false 74 [(.one (.U 0))] (.p (.B 1)) ⟨0,1,0,0,0,0⟩
 (.call (.not (.or (.x 0) (.x 1))) false 76 [(.one (.U 0))] (.p (.B 2)) ⟨0,1,0,0,0,0⟩
 (.ret (.p (.one (.b (.or (.or (.x 0) (.x 1)) (.x 2)))))))))
theorem Vq:aZ ⟨true,[]⟩ Tryz.prog (fun l=>([]:List bK).getD l ⟨[],[],[]⟩) Tryz.f117=KO:=by kernel_rfl
theorem ZR:az Tryz.prog .zero Tryz.f117.params.toList=some ([(.one (.U 0))],⟨1,0,0,0,0,0⟩):=by kernel_rfl
def LP:Fm:=(.ret (.p (.one (.b (.not (.eqI (.x 0) (.c 10)))))))
theorem VY:aZ ⟨true,[]⟩ Tryz.prog (fun l=>([]:List bK).getD l ⟨[],[],[]⟩) Tryz.f116=LP:=by kernel_rfl
theorem aar:az Tryz.prog .zero Tryz.f116.params.toList=some ([(.one (.U 0))],⟨1,0,0,0,0,0⟩):=by kernel_rfl
def SX:Fm:=(.Z 0
 (.Z 0
 (.O (.pt 0 1) 1 [.J 1] ⟨1,0,0,0,0,0⟩
 (.N (.R (.add (.x 1) (.x 0)))
 (.Z 0
 (.Z 0
 (.store (.pt 0 1) [(.i .i64 (.add (.x 1) (.x 0)))]
 (.Z 0
 (.Z 0
 (.O (.pt 0 3) 1 [.J 2] ⟨1,0,0,0,0,0⟩
 (.N (.R (.add (.x 2) (.x 0)))
 (.Z 0
 (.Z 0
 (.store (.pt 0 3) [(.i .i64 (.add (.x 2) (.x 0)))]
 .E))))))))))))))
theorem YX:aZ ⟨true,[]⟩ Tryz.prog (fun l=>([]:List bK).getD l ⟨[],[],[]⟩) Tryz.f114=SX:=by kernel_rfl
theorem acU:az Tryz.prog .zero Tryz.f114.params.toList=some ([.P 0,.J 0],⟨1,0,0,0,0,1⟩):=by kernel_rfl
def xB:Fm:=(.ite (.or (.and (.le (.c 97) (.x 0)) (.le (.x 0) (.c 122))) (.eqI (.x 0) (.c 95)))
 (.ret (.p (.I (.c 1))))
 (.ite (.and (.le (.c 65) (.x 0)) (.le (.x 0) (.c 90)))
 (.ret (.p (.I (.c 2))))
 (.ite (.and (.le (.c 48) (.x 0)) (.le (.x 0) (.c 57)))
 (.ret (.p (.I (.c 3))))
 (.ret (.p (.I (.c 0)))))))
theorem YS:aZ ⟨true,[]⟩ Tryz.prog (fun l=>([]:List bK).getD l ⟨[],[],[]⟩) Tryz.f146=xB:=by kernel_rfl
theorem acP:az Tryz.prog .zero Tryz.f146.params.toList=some ([(.one (.U 0))],⟨1,0,0,0,0,0⟩):=by kernel_rfl
def rc (s:List UInt8) (a l c:Int):List Value:=[.string (B s),.int .i64 a,.int .i64 l,.int .i64 c]
def kM:Ct Tryz.prog where
 f:=73
 spec:=fun args h φ=>∃ b:Int,args=[.int .u8 b]/\φ (.bool (UF b)) h
 ok:=by
  rintro args h φ w ⟨b,rfl,hφ⟩ hH;refine bn Tryz.func73 VZ aas [] φ bP bu ⟨[b],[],[],[],[],[],h,df⟩ ⟨rfl,rfl,rfl,rfl,rfl,rfl⟩ af ?_ w hH rfl;have e:UF b=((leB 97 b&&leB b 122)||b==95):=by
   unfold UF jh leB;rw[Bool.eq_iff_iff];simp;split<;>(try split)<;>(try split)<;>simp_all
  simp[LQ,go_sem];rw[e] at hφ;simpa using hφ
def iW:Ct Tryz.prog where
 f:=74
 spec:=fun args h φ=>∃ b:Int,args=[.int .u8 b]/\φ (.bool (OG b)) h
 ok:=by
  rintro args h φ w ⟨b,rfl,hφ⟩ hH;refine bn Tryz.func74 Vp ZQ [] φ bP bu ⟨[b],[],[],[],[],[],h,df⟩ ⟨rfl,rfl,rfl,rfl,rfl,rfl⟩ af ?_ w hH rfl;have e:OG b=(leB 65 b&&leB b 90):=by
   unfold OG jh leB;rw[Bool.eq_iff_iff];simp;split<;>(try split)<;>(try split)<;>simp_all<;>omega
  simp[KN,go_sem];rw[e] at hφ;simpa using hφ
def jD:Ct Tryz.prog where
 f:=76
 spec:=fun args h φ=>∃ b:Int,args=[.int .u8 b]/\φ (.bool (kY b)) h
 ok:=by
  rintro args h φ w ⟨b,rfl,hφ⟩ hH;refine bn Tryz.func76 Vm ZO [] φ bP bu ⟨[b],[],[],[],[],[],h,df⟩ ⟨rfl,rfl,rfl,rfl,rfl,rfl⟩ af ?_ w hH rfl;have e:kY b=(leB 48 b&&leB b 57):=by
   unfold kY jh leB;rw[Bool.eq_iff_iff];simp;split<;>(try split)<;>(try split)<;>simp_all<;>omega
  simp[KJ,go_sem];rw[e] at hφ;simpa using hφ
theorem aeL (b:Int):inB b=(UF b||OG b||kY b):=by
 unfold inB UF OG kY jh;rw[Bool.eq_iff_iff];split<;>(try split)<;>(try split)<;>simp
def AQ:Ct Tryz.prog where
 f:=117
 spec:=fun args h φ=>∃ b:Int,args=[.int .u8 b]/\φ (.bool (inB b)) h
 ok:=by
  rintro args h φ w ⟨b,rfl,hφ⟩ hH;refine bn Tryz.func117 Vq ZR [kM,iW,jD] φ bP bu ⟨[b],[],[],[],[],[],h,df⟩ ⟨rfl,rfl,rfl,rfl,rfl,rfl⟩ af ?_ w hH rfl;rw[aeL] at hφ;cases h1:UF b<;>cases h2:OG b<;>rw[h1,h2] at hφ<;>simp[KO,go_sem,kM,iW,jD,h1,h2]<;>simpa using hφ
def Sl:Ct Tryz.prog where
 f:=116
 spec:=fun args h φ=>∃ b:Int,args=[.int .u8 b]/\φ (.bool (DI b)) h
 ok:=by
  rintro args h φ w ⟨b,rfl,hφ⟩ hH;refine bn Tryz.func116 VY aar [] φ bP bu ⟨[b],[],[],[],[],[],h,df⟩ ⟨rfl,rfl,rfl,rfl,rfl,rfl⟩ af ?_ w hH rfl;simp[LP,go_sem];exact hφ
def l7:Ct Tryz.prog where
 f:=146
 spec:=fun args h φ=>∃ b:Int,args=[.int .u8 b]/\φ (.int .i64 (jh b)) h
 ok:=by
  rintro args h φ w ⟨b,rfl,hφ⟩ hH;refine bn Tryz.func146 YS acP [] φ bP bu ⟨[b],[],[],[],[],[],h,df⟩ ⟨rfl,rfl,rfl,rfl,rfl,rfl⟩ af ?_ w hH rfl;unfold jh at hφ;by_cases h1:(97<=b/\b<=122)\/b=95
  . rw[if_pos h1] at hφ;simp[xB,go_sem,h1,hφ];intro x y;exfalso;omega
  . rw[if_neg h1] at hφ;by_cases h2:65<=b/\b<=90
    . rw[if_pos h2] at hφ;simp[xB,go_sem,h1,h2,hφ];intro x y z;exfalso;omega
    . rw[if_neg h2] at hφ;by_cases h3:48<=b/\b<=57
      . rw[if_pos h3] at hφ;simp[xB,go_sem,h1,h2,h3,hφ];intro x y z u;exfalso;omega
      . rw[if_neg h3] at hφ;simp[xB,go_sem,h1,h2,h3,hφ]
def jy:Ct Tryz.prog where
 f:=114
 spec:=fun args h φ=>∃ b s a l c,∃ T:Rw,∃ n,args=[.pointer (some ⟨b,0,none⟩),.int .i64 n]/\h b=some ⟨rc s a l c,T⟩/\0<=a/\a<=1000000/\0<=c/\c<=1000000/\0<=n/\n<=1000000/\φ (.tuple #[]) (h.set b ⟨rc s (a+n) l (c+n),T⟩)
 ok:=by
  rintro args h φ w ⟨b,s,a,l,c,T,n,rfl,hb,h1,h2,h3,h4,h5,h6,hφ⟩ hH;obtain⟨h,rfl⟩:∃ h',h=Hp.set h' b ⟨rc s a l c,T⟩:=⟨h,set_self hb⟩;refine bn Tryz.func114 YX acU [] φ bP bu ⟨[n],[],[],[],[],[some (b,0)],h.set b ⟨rc s a l c,T⟩,df⟩ ⟨rfl,rfl,rfl,rfl,rfl,rfl⟩ af ?_ w hH rfl;rw[dZ] at hφ;simp[SX,go_sem,rc];refine⟨by omega,by omega,by omega,by omega,?_⟩;simpa[rc] using hφ
end
def FN:Fm:=(.loop 0 ⟨[(.c 0)],[],[],[],[],[]⟩
 (.O (.pt 0 1) 1 [.J 1] ⟨1,0,0,0,0,0⟩
 (.O (.pt 0 0) 1 [(.s (.x 0))] ⟨0,0,1,0,0,0⟩
 (.load (.lt (.add (.x 1) (.x 0)) (.len (.x 0))) (.pt 0 0) 1 [(.s (.x 1))] ⟨0,0,1,0,0,0⟩
 (.load (.lt (.add (.x 1) (.x 0)) (.len (.x 0))) (.pt 0 1) 1 [.J 2] ⟨1,0,0,0,0,0⟩
 (.Z 0
 (.Z 0
 (.N (.R (.add (.x 1) (.x 0)))
 (.Z 0
 (.Z 0
 (.need (.lt (.add (.x 1) (.x 0)) (.len (.x 0))) (.nnp 0)
 (.need (.lt (.add (.x 1) (.x 0)) (.len (.x 0))) (.nnp 0)
 (.need (.lt (.add (.x 1) (.x 0)) (.len (.x 0))) (.nnp 0)
 (.need (.lt (.add (.x 1) (.x 0)) (.len (.x 0))) (.nnp 0)
 (.need (.lt (.add (.x 1) (.x 0)) (.len (.x 0))) (.R (.add (.x 2) (.x 0)))
 (.need (.lt (.add (.x 1) (.x 0)) (.len (.x 0))) (.and (.le (.c 0) (.add (.x 2) (.x 0))) (.lt (.add (.x 2) (.x 0)) (.len (.x 1))))
 (.call (.lt (.add (.x 1) (.x 0)) (.len (.x 0))) false 76 [(.one (.i .u8 (.at (.x 1) (.add (.x 2) (.x 0)))))] (.p (.B 0)) ⟨0,1,0,0,0,0⟩
 (.ite (.and (.lt (.add (.x 1) (.x 0)) (.len (.x 0))) (.x 0))
 (.N (.R (.add (.x 0) (.c 1)))
 (.again 0 ⟨0,0,0,0,0,1⟩ ⟨1,0,0,0,0,1⟩ ⟨[(.add (.x 0) (.c 1))],[],[],[],[],[]⟩))
 (.ret (.p (.J 0)))))))))))))))))))))
theorem PX:lq ⟨true,[]⟩ Tryz.prog (fun l=>([⟨[5],[6,7,8,9,10,11,12,13,14,15,16,17,18,19,20,21,22,23,24,25,26,27,28,29,30,31,32,33,34],[]⟩]:List bK).getD l ⟨[],[],[]⟩) Tryz.f115 [.P 0,.one (.c (.fn 76))] ⟨0,0,0,0,0,1⟩=FN:=by kernel_rfl
def FO:Fm:=(.loop 0 ⟨[(.c 0)],[],[],[],[],[]⟩
 (.O (.pt 0 1) 1 [.J 1] ⟨1,0,0,0,0,0⟩
 (.O (.pt 0 0) 1 [(.s (.x 0))] ⟨0,0,1,0,0,0⟩
 (.load (.lt (.add (.x 1) (.x 0)) (.len (.x 0))) (.pt 0 0) 1 [(.s (.x 1))] ⟨0,0,1,0,0,0⟩
 (.load (.lt (.add (.x 1) (.x 0)) (.len (.x 0))) (.pt 0 1) 1 [.J 2] ⟨1,0,0,0,0,0⟩
 (.Z 0
 (.Z 0
 (.N (.R (.add (.x 1) (.x 0)))
 (.Z 0
 (.Z 0
 (.need (.lt (.add (.x 1) (.x 0)) (.len (.x 0))) (.nnp 0)
 (.need (.lt (.add (.x 1) (.x 0)) (.len (.x 0))) (.nnp 0)
 (.need (.lt (.add (.x 1) (.x 0)) (.len (.x 0))) (.nnp 0)
 (.need (.lt (.add (.x 1) (.x 0)) (.len (.x 0))) (.nnp 0)
 (.need (.lt (.add (.x 1) (.x 0)) (.len (.x 0))) (.R (.add (.x 2) (.x 0)))
 (.need (.lt (.add (.x 1) (.x 0)) (.len (.x 0))) (.and (.le (.c 0) (.add (.x 2) (.x 0))) (.lt (.add (.x 2) (.x 0)) (.len (.x 1))))
 (.call (.lt (.add (.x 1) (.x 0)) (.len (.x 0))) false 117 [(.one (.i .u8 (.at (.x 1) (.add (.x 2) (.x 0)))))] (.p (.B 0)) ⟨0,1,0,0,0,0⟩
 (.ite (.and (.lt (.add (.x 1) (.x 0)) (.len (.x 0))) (.x 0))
 (.N (.R (.add (.x 0) (.c 1)))
 (.again 0 ⟨0,0,0,0,0,1⟩ ⟨1,0,0,0,0,1⟩ ⟨[(.add (.x 0) (.c 1))],[],[],[],[],[]⟩))
 (.ret (.p (.J 0)))))))))))))))))))))
theorem PY:lq ⟨true,[]⟩ Tryz.prog (fun l=>([⟨[5],[6,7,8,9,10,11,12,13,14,15,16,17,18,19,20,21,22,23,24,25,26,27,28,29,30,31,32,33,34],[]⟩]:List bK).getD l ⟨[],[],[]⟩) Tryz.f115 [.P 0,.one (.c (.fn 117))] ⟨0,0,0,0,0,1⟩=FO:=by kernel_rfl
def FP:Fm:=(.loop 0 ⟨[(.c 0)],[],[],[],[],[]⟩
 (.O (.pt 0 1) 1 [.J 1] ⟨1,0,0,0,0,0⟩
 (.O (.pt 0 0) 1 [(.s (.x 0))] ⟨0,0,1,0,0,0⟩
 (.load (.lt (.add (.x 1) (.x 0)) (.len (.x 0))) (.pt 0 0) 1 [(.s (.x 1))] ⟨0,0,1,0,0,0⟩
 (.load (.lt (.add (.x 1) (.x 0)) (.len (.x 0))) (.pt 0 1) 1 [.J 2] ⟨1,0,0,0,0,0⟩
 (.Z 0
 (.Z 0
 (.N (.R (.add (.x 1) (.x 0)))
 (.Z 0
 (.Z 0
 (.need (.lt (.add (.x 1) (.x 0)) (.len (.x 0))) (.nnp 0)
 (.need (.lt (.add (.x 1) (.x 0)) (.len (.x 0))) (.nnp 0)
 (.need (.lt (.add (.x 1) (.x 0)) (.len (.x 0))) (.nnp 0)
 (.need (.lt (.add (.x 1) (.x 0)) (.len (.x 0))) (.nnp 0)
 (.need (.lt (.add (.x 1) (.x 0)) (.len (.x 0))) (.R (.add (.x 2) (.x 0)))
 (.need (.lt (.add (.x 1) (.x 0)) (.len (.x 0))) (.and (.le (.c 0) (.add (.x 2) (.x 0))) (.lt (.add (.x 2) (.x 0)) (.len (.x 1))))
 (.call (.lt (.add (.x 1) (.x 0)) (.len (.x 0))) false 116 [(.one (.i .u8 (.at (.x 1) (.add (.x 2) (.x 0)))))] (.p (.B 0)) ⟨0,1,0,0,0,0⟩
 (.ite (.and (.lt (.add (.x 1) (.x 0)) (.len (.x 0))) (.x 0))
 (.N (.R (.add (.x 0) (.c 1)))
 (.again 0 ⟨0,0,0,0,0,1⟩ ⟨1,0,0,0,0,1⟩ ⟨[(.add (.x 0) (.c 1))],[],[],[],[],[]⟩))
 (.ret (.p (.J 0)))))))))))))))))))))
theorem PZ:lq ⟨true,[]⟩ Tryz.prog (fun l=>([⟨[5],[6,7,8,9,10,11,12,13,14,15,16,17,18,19,20,21,22,23,24,25,26,27,28,29,30,31,32,33,34],[]⟩]:List bK).getD l ⟨[],[],[]⟩) Tryz.f115 [.P 0,.one (.c (.fn 116))] ⟨0,0,0,0,0,1⟩=FP:=by kernel_rfl
section
attribute [local go_sem] Fm.says
def y9 (p:Int->Bool) (s:List UInt8) (a:Nat) (l c:Int) (T b:Nat) (h:Hp) (_:Nat) (C:Ctx):Prop:=
 ∃ n:Int,C=⟨[n],[],[],[],[],[some (b,0)],h.set b ⟨rc s a l c,T⟩,df⟩/\∃ k:Nat,n=(k:Int)/\a+k<=s.length/\rn p s a=k+rn p s (a+k)
theorem afm {s:List UInt8} {a:Nat} {l c:Int} {T b:Nat} (ha:a<=s.length) (hs:s.length<=1000000) (h:Hp) (φ:Value->Hp->Prop) (hφ:φ (.int .i64 (rn kY s a)) (h.set b ⟨rc s a l c,T⟩)) (w:World) (hH:Holds (h.set b ⟨rc s a l c,T⟩) w):
 Calls Tryz.prog 115 #[.pointer (some ⟨b,0,none⟩),.func (.func 76) #[] #[]] w fun e w'=>∃ v k,e=.returned v/\φ v k/\Holds k w'/\Fr w.heap.size (h.set b ⟨rc s a l c,T⟩) k w w':=by
 refine qI Tryz.func115 PX [jD] φ (y9 kY s a l c T b h) (fun _ C=>(s.length - C.i.getD 0 0).toNat) ⟨[],[],[],[],[],[some (b,0)],h.set b ⟨rc s a l c,T⟩,df⟩ ⟨rfl,rfl,rfl,rfl,rfl,rfl⟩ af ?_ w hH rfl;simp[FN,go_sem,rc,y9,jD];refine⟨⟨0,rfl,by omega,by simp⟩,fun x k hx hk hr=>?_⟩;subst hx;by_cases hlt:(a:Int)+k<s.length
 . have hi:a+k<s.length:=by omega
   have e:((a:Int)+(k:Int)).toNat=a+k:=by omega
   have hlt':¬ ((s.length:Int)<=a+k):=by omega
   cases hp:kY (bt s (a+k))
   . rw[xY hi hp] at hr;have hk':(k:Int)=(rn kY s a:Int):=by omega
     simp[hlt,hlt',e,hp]
     (repeat' apply And.intro)<;>try omega
     rw[hk'];simpa[rc] using hφ
   . rw[jZ hi hp] at hr;simp[hlt,hlt',e,hp]
     (repeat' apply And.intro)<;>try omega
     exact⟨k+1,by omega,by omega,by rw[show a+(k+1)=a+k+1 by omega];omega⟩
 . have hge:(s.length:Int)<=a+k:=by omega
   rw[pq (i:=a+k) (by omega)] at hr;have hk':(k:Int)=(rn kY s a:Int):=by omega
   simp[hlt,hge]
   (repeat' apply And.intro)<;>try omega
   rw[hk'];simpa[rc] using hφ
theorem Xi {s:List UInt8} {a:Nat} {l c:Int} {T b:Nat} (ha:a<=s.length) (hs:s.length<=1000000) (h:Hp) (φ:Value->Hp->Prop) (hφ:φ (.int .i64 (rn inB s a)) (h.set b ⟨rc s a l c,T⟩)) (w:World) (hH:Holds (h.set b ⟨rc s a l c,T⟩) w):
 Calls Tryz.prog 115 #[.pointer (some ⟨b,0,none⟩),.func (.func 117) #[] #[]] w fun e w'=>∃ v k,e=.returned v/\φ v k/\Holds k w'/\Fr w.heap.size (h.set b ⟨rc s a l c,T⟩) k w w':=by
 refine qI Tryz.func115 PY [AQ] φ (y9 inB s a l c T b h) (fun _ C=>(s.length - C.i.getD 0 0).toNat) ⟨[],[],[],[],[],[some (b,0)],h.set b ⟨rc s a l c,T⟩,df⟩ ⟨rfl,rfl,rfl,rfl,rfl,rfl⟩ af ?_ w hH rfl;simp[FO,go_sem,rc,y9,AQ];refine⟨⟨0,rfl,by omega,by simp⟩,fun x k hx hk hr=>?_⟩;subst hx;by_cases hlt:(a:Int)+k<s.length
 . have hi:a+k<s.length:=by omega
   have e:((a:Int)+(k:Int)).toNat=a+k:=by omega
   have hlt':¬ ((s.length:Int)<=a+k):=by omega
   cases hp:inB (bt s (a+k))
   . rw[xY hi hp] at hr;have hk':(k:Int)=(rn inB s a:Int):=by omega
     simp[hlt,hlt',e,hp]
     (repeat' apply And.intro)<;>try omega
     rw[hk'];simpa[rc] using hφ
   . rw[jZ hi hp] at hr;simp[hlt,hlt',e,hp]
     (repeat' apply And.intro)<;>try omega
     exact⟨k+1,by omega,by omega,by rw[show a+(k+1)=a+k+1 by omega];omega⟩
 . have hge:(s.length:Int)<=a+k:=by omega
   rw[pq (i:=a+k) (by omega)] at hr;have hk':(k:Int)=(rn inB s a:Int):=by omega
   simp[hlt,hge]
   (repeat' apply And.intro)<;>try omega
   rw[hk'];simpa[rc] using hφ
theorem afn {s:List UInt8} {a:Nat} {l c:Int} {T b:Nat} (ha:a<=s.length) (hs:s.length<=1000000) (h:Hp) (φ:Value->Hp->Prop) (hφ:φ (.int .i64 (rn DI s a)) (h.set b ⟨rc s a l c,T⟩)) (w:World) (hH:Holds (h.set b ⟨rc s a l c,T⟩) w):
 Calls Tryz.prog 115 #[.pointer (some ⟨b,0,none⟩),.func (.func 116) #[] #[]] w fun e w'=>∃ v k,e=.returned v/\φ v k/\Holds k w'/\Fr w.heap.size (h.set b ⟨rc s a l c,T⟩) k w w':=by
 refine qI Tryz.func115 PZ [Sl] φ (y9 DI s a l c T b h) (fun _ C=>(s.length - C.i.getD 0 0).toNat) ⟨[],[],[],[],[],[some (b,0)],h.set b ⟨rc s a l c,T⟩,df⟩ ⟨rfl,rfl,rfl,rfl,rfl,rfl⟩ af ?_ w hH rfl;simp[FP,go_sem,rc,y9,Sl];refine⟨⟨0,rfl,by omega,by simp⟩,fun x k hx hk hr=>?_⟩;subst hx;by_cases hlt:(a:Int)+k<s.length
 . have hi:a+k<s.length:=by omega
   have e:((a:Int)+(k:Int)).toNat=a+k:=by omega
   have hlt':¬ ((s.length:Int)<=a+k):=by omega
   cases hp:DI (bt s (a+k))
   . rw[xY hi hp] at hr;have hk':(k:Int)=(rn DI s a:Int):=by omega
     simp[hlt,hlt',e,hp]
     (repeat' apply And.intro)<;>try omega
     rw[hk'];simpa[rc] using hφ
   . rw[jZ hi hp] at hr;simp[hlt,hlt',e,hp]
     (repeat' apply And.intro)<;>try omega
     exact⟨k+1,by omega,by omega,by rw[show a+(k+1)=a+k+1 by omega];omega⟩
 . have hge:(s.length:Int)<=a+k:=by omega
   rw[pq (i:=a+k) (by omega)] at hr;have hk':(k:Int)=(rn DI s a:Int):=by omega
   simp[hlt,hge]
   (repeat' apply And.intro)<;>try omega
   rw[hk'];simpa[rc] using hφ
end
def acd:Fm:=(.loop 0 ⟨[],[],[],[],[],[]⟩
 (.O (.pt 0 1) 1 [.J 0] ⟨1,0,0,0,0,0⟩
 (.O (.pt 0 0) 1 [(.s (.x 0))] ⟨0,0,1,0,0,0⟩
 (.Z 0
 (.Z 0
 (.Z 0
 (.Z 0
 (.ite (.eqI (.x 0) (.len (.x 0)))
 .E
 (.O (.pt 0 0) 1 [(.s (.x 1))] ⟨0,0,1,0,0,0⟩
 (.O (.pt 0 1) 1 [.J 1] ⟨1,0,0,0,0,0⟩
 (.Z 0
 (.Z 0
 (.Z 0
 (.Z 0
 (.N (.and (.le (.c 0) (.x 1)) (.lt (.x 1) (.len (.x 1))))
 (.ite (.eqI (.at (.x 1) (.x 1)) (.c 10))
 (.Z 0
 (.Z 0
 (.O (.pt 0 2) 1 [.J 2] ⟨1,0,0,0,0,0⟩
 (.N (.R (.add (.x 2) (.c 1)))
 (.Z 0
 (.Z 0
 (.store (.pt 0 2) [(.i .i64 (.add (.x 2) (.c 1)))]
 (.Z 0
 (.Z 0
 (.store (.pt 0 3) [(.i .i64 (.c 0))]
 (.V 114 [.P 0,(.I (.c 1))]
 (.again 0 ⟨0,0,0,0,0,1⟩ ⟨0,0,0,0,0,1⟩ ⟨[],[],[],[],[],[]⟩))))))))))))
 (.ite (.eqI (.at (.x 1) (.x 1)) (.c 32))
 (.ite (.eqI (.at (.x 1) (.x 1)) (.c 32))
 (.V 114 [.P 0,(.I (.c 1))]
 (.again 0 ⟨0,0,0,0,0,1⟩ ⟨0,0,0,0,0,1⟩ ⟨[],[],[],[],[],[]⟩))
 (.ite (.eqI (.at (.x 1) (.x 1)) (.c 35))
 (.C 115 [.P 0,(.one (.c (.fn 116)))] (.p (.J 2)) ⟨1,0,0,0,0,0⟩
 (.V 114 [.P 0,.J 2]
 (.again 0 ⟨0,0,0,0,0,1⟩ ⟨0,0,0,0,0,1⟩ ⟨[],[],[],[],[],[]⟩)))
 .E))
 (.ite (.eqI (.at (.x 1) (.x 1)) (.c 9))
 (.ite (.eqI (.at (.x 1) (.x 1)) (.c 9))
 (.V 114 [.P 0,(.I (.c 1))]
 (.again 0 ⟨0,0,0,0,0,1⟩ ⟨0,0,0,0,0,1⟩ ⟨[],[],[],[],[],[]⟩))
 (.ite (.eqI (.at (.x 1) (.x 1)) (.c 35))
 (.C 115 [.P 0,(.one (.c (.fn 116)))] (.p (.J 2)) ⟨1,0,0,0,0,0⟩
 (.V 114 [.P 0,.J 2]
 (.again 0 ⟨0,0,0,0,0,1⟩ ⟨0,0,0,0,0,1⟩ ⟨[],[],[],[],[],[]⟩)))
 .E))
 (.ite (.eqI (.at (.x 1) (.x 1)) (.c 13))
 (.V 114 [.P 0,(.I (.c 1))]
 (.again 0 ⟨0,0,0,0,0,1⟩ ⟨0,0,0,0,0,1⟩ ⟨[],[],[],[],[],[]⟩))
 (.ite (.eqI (.at (.x 1) (.x 1)) (.c 35))
 (.C 115 [.P 0,(.one (.c (.fn 116)))] (.p (.J 2)) ⟨1,0,0,0,0,0⟩
 (.V 114 [.P 0,.J 2]
 (.again 0 ⟨0,0,0,0,0,1⟩ ⟨0,0,0,0,0,1⟩ ⟨[],[],[],[],[],[]⟩)))
 .E))))))))))))))))))))
theorem Za:aZ ⟨true,[]⟩ Tryz.prog (fun l=>([⟨[],[2,3,4,5,6,7,8,9,10,11,12,13,14,15,16,17,18,19,20,22,21,24,23,25,26,28,27,29,30,31,32,33,34,35,36,37,38,39,40,41,42,43,44],[0]⟩]:List bK).getD l ⟨[],[],[]⟩) Tryz.f72=acd:=by kernel_rfl
theorem ac7:az Tryz.prog .zero Tryz.f72.params.toList=some ([.P 0],⟨0,0,0,0,0,1⟩):=by kernel_rfl
def oN (p:Int->Bool) (b:Nat) (h:Hp) (φ:Value->Hp->Prop):Prop:=
 ∃ s a l c T,h b=some ⟨rc s a l c,T⟩/\0<=a/\a<=s.length/\s.length<=1000000/\φ (.int .i64 (rn p s a.toNat)) h
def zJ:Ct Tryz.prog where
 f:=115
 spec:=fun args h φ=>
  (∃ b,args=[.pointer (some ⟨b,0,none⟩),.func (.func 76) #[] #[]]/\oN kY b h φ)\/(∃ b,args=[.pointer (some ⟨b,0,none⟩),.func (.func 117) #[] #[]]/\oN inB b h φ)\/
  (∃ b,args=[.pointer (some ⟨b,0,none⟩),.func (.func 116) #[] #[]]/\oN DI b h φ)
 ok:=by
  rintro args h φ w hc hH;rcases hc with ⟨b,rfl,s,a,l,c,T,hb,h0,ha,hs,hφ⟩ | ⟨b,rfl,s,a,l,c,T,hb,h0,ha,hs,hφ⟩ | ⟨b,rfl,s,a,l,c,T,hb,h0,ha,hs,hφ⟩
  all_goals
   obtain⟨h,rfl⟩:∃ h',h=Hp.set h' b ⟨rc s a l c,T⟩:=⟨h,set_self hb⟩;obtain⟨n,rfl⟩:∃ n:Nat,a=n:=⟨a.toNat,by omega⟩;rw[Int.toNat_natCast] at hφ
  . exact afm (by omega) hs h φ hφ w hH
  . exact Xi (by omega) hs h φ hφ w hH
  . exact afn (by omega) hs h φ hφ w hH
def Ib (h:Hp) (b:Nat):Int:=
 match h b with
 | some ⟨[_,.int _ a,_,_],_⟩=>a
 | _=>0
theorem wR (h:Hp) (b:Nat) (s:List UInt8) (a l c:Int) (T:Nat):Ib (h.set b ⟨rc s a l c,T⟩) b=a:=by unfold Ib;rw[aA];rfl
section
attribute [local go_sem] bg bf uM x8 uJ qZ uK wJ x9 Ed Ec Ee ax says_again cu
def UB (s:List UInt8) (a:Nat) (p:Int×Int) (T:Rw) (b:Nat) (h:Hp) (_:Nat) (C:Ctx):Prop:=
 ∃ k:Nat,C=⟨[],[],[],[],[],[some (b,0)],h.set b ⟨rc s k (mZ p (sub s a k)).1 (mZ p (sub s a k)).2,T⟩,df⟩/\a<=k/\k<=s.length/\jU false s a=(k - a)+jU false s k
set_option maxHeartbeats 8000000 in
def Ip:Ct Tryz.prog where
 f:=72
 spec:=fun args h φ=>∃ b s,∃ a:Nat,∃ p:Int×Int,∃ T:Rw,args=[.pointer (some ⟨b,0,none⟩)]/\h b=some ⟨rc s a p.1 p.2,T⟩/\a<=s.length/\s.length<=100000/\0<=p.1/\p.1<=100000/\0<=p.2/\p.2<=100000/\
  φ (.tuple #[]) (h.set b ⟨rc s (a+jU false s a:Nat) (mZ p (sub s a (a+jU false s a))).1 (mZ p (sub s a (a+jU false s a))).2,T⟩)
 ok:=by
  rintro args h φ w ⟨b,s,a,p,T,rfl,hb,ha,hs,p1,p2,p3,p4,hφ⟩ hH;obtain⟨h,rfl⟩:∃ h',h=Hp.set h' b ⟨rc s a p.1 p.2,T⟩:=⟨h,set_self hb⟩;rw[dZ] at hφ;refine bn Tryz.func72 Za ac7 [jy,zJ] φ (UB s a p T b h) (fun _ C=>(s.length - Ib C.h b).toNat) ⟨[],[],[],[],[],[some (b,0)],h.set b ⟨rc s a p.1 p.2,T⟩,df⟩ ⟨rfl,rfl,rfl,rfl,rfl,rfl⟩ af ?_ w hH rfl;refine bI ⟨a,by rw[yj,Ry];rfl,Nat.le_refl _,ha,by omega⟩ ?_;rintro i bb ss v ll pp hh M ⟨k,hC,h1,h2,h3⟩ hM;cases hC;simp only[wR] at hM;have hbd:=XJ p (sub s a k) p1 p3;rw[Bl s h2] at hbd;generalize hq:mZ p (sub s a k)=q at *;obtain⟨L,Co⟩:=q;simp only at hbd hM⊢;have hq':∀ (n:Nat) (x L' C':Int),x=(k:Int)+n->k+n<=s.length->0<n->mZ p (sub s a (k+n))=(L',C')->jU false s k=n+jU false s (k+n)->
   UB s a p T b h 0 ⟨[],[],[],[],[],[some (b,0)],h.set b ⟨[.string (B s),.int .i64 x,.int .i64 L',.int .i64 C'],T⟩,df⟩/\((s.length:Int) - Ib (h.set b ⟨[.string (B s),.int .i64 x,.int .i64 L',.int .i64 C'],T⟩) b).toNat<M 0:=by
   intro n x L' C' hx hn hn0 he hsk;have e:([.string (B s),.int .i64 x,.int .i64 L',.int .i64 C']:List Value)=rc s ((k+n:Nat):Int) L' C':=by rw[hx];rfl
   rw[e];refine⟨⟨k+n,by rw[he],by omega,hn,by omega⟩,?_⟩;rw[wR,hM];omega
  have done:jU false s k=0->φ (.tuple #[]) (h.set b ⟨[.string (B s),.int .i64 k,.int .i64 L,.int .i64 Co],T⟩):=by
   intro h0;rw[h0] at h3;have e:a+jU false s a=k:=by omega
   rw[e,hq] at hφ;exact hφ
  by_cases hk:k<s.length
  . have hne:¬ ((k:Int)=s.length):=by omega
    have hlt:(k:Int)<s.length:=by omega
    rcases (by omega:bt s k=10\/bt s k=32\/bt s k=9\/bt s k=13\/bt s k=35\/(bt s k≠10/\bt s k≠32/\bt s k≠9/\bt s k≠13/\bt s k≠35)) with hb | hb | hb | hb | hb | hb
    . have ha':=hq' 1 (k+1) (L+1) 1 (by omega) (by omega) (by omega) (by rw[sH p s h1 hk,hq,ad,if_pos hb]) (by rw[uN hk (.inl hb)];omega);simp[go_sem,rc,jy,hne,hb]
      (repeat' apply And.intro)<;>first | omega | exact ha'.1 | exact ha'.2
    . have ha':=hq' 1 (k+1) L (Co+1) (by omega) (by omega) (by omega) (by rw[sH p s h1 hk,hq,ad,if_neg (by omega)]) (by rw[uN hk (.inr (.inl hb))];omega);simp[go_sem,rc,jy,hne,hb]
      (repeat' apply And.intro)<;>first | omega | exact ha'.1 | exact ha'.2
    . have ha':=hq' 1 (k+1) L (Co+1) (by omega) (by omega) (by omega) (by rw[sH p s h1 hk,hq,ad,if_neg (by omega)]) (by rw[uN hk (.inr (.inr (.inl hb)))];omega);simp[go_sem,rc,jy,hne,hb]
      (repeat' apply And.intro)<;>first | omega | exact ha'.1 | exact ha'.2
    . have ha':=hq' 1 (k+1) L (Co+1) (by omega) (by omega) (by omega) (by rw[sH p s h1 hk,hq,ad,if_neg (by omega)]) (by rw[uN hk (.inr (.inr (.inr hb)))];omega);simp[go_sem,rc,jy,hne,hb]
      (repeat' apply And.intro)<;>first | omega | exact ha'.1 | exact ha'.2
    . have hle:=D7 (p:=DI) (s:=s) (i:=k) (by omega);have hpos:0<rn DI s k:=by rw[jZ hk (by rw[hb];rfl)];omega
      have ha':=hq' (rn DI s k) (k+rn DI s k) L (Co+rn DI s k) (by omega) hle hpos (by
       rw[sub_sub s h1 (Nat.le_add_right k _) hle,H6,hq,JU _ s hle (fun j h1 h2=>by
        have:=(aej (p:=DI) h1 h2).2;simpa[DI] using this)]) (by rw[aa0 hk hb])
      simp[go_sem,rc,jy,zJ,oN,hne,hb]
      (repeat' apply And.intro)<;>first | omega | exact ha'.1 | exact ha'.2
    . obtain⟨b1,b2,b3,b4,b5⟩:=hb;have hd:=done (aa1 hk ⟨b1,b2,b3,b4,b5⟩);simp[go_sem,rc,hne,b1,b2,b3,b4,b5]
      (repeat' apply And.intro)<;>first | omega | exact hd
  . have heq:(k:Int)=s.length:=by omega
    have hd:=done (Jr (by omega) _);simp[go_sem,rc,<- heq];exact hd
def Vk:Fm:=(.loop 0 ⟨[(.x 0)],[],[],[],[],[]⟩
 (.need (.lt (.x 1) (.len (.x 0))) (.and (.le (.c 0) (.x 1)) (.lt (.x 1) (.len (.x 0))))
 (.call (.lt (.x 1) (.len (.x 0))) false 146 [(.one (.i .u8 (.at (.x 0) (.x 1))))] (.p (.J 2)) ⟨1,0,0,0,0,0⟩
 (.ite (.and (.lt (.x 1) (.len (.x 0))) (.lt (.c 0) (.x 2)))
 (.N (.R (.add (.x 1) (.c 1)))
 (.again 0 ⟨1,0,1,0,0,0⟩ ⟨2,0,1,0,0,0⟩ ⟨[(.add (.x 1) (.c 1))],[],[],[],[],[]⟩))
 (.ret (.p (.J 1)))))))
theorem PQ:aZ ⟨true,[]⟩ Tryz.prog (fun l=>([⟨[1],[5,6,7,8,9,10,11,12,13,14,15,16,17],[]⟩]:List bK).getD l ⟨[],[],[]⟩) Tryz.f147=Vk:=by kernel_rfl
theorem WI:az Tryz.prog .zero Tryz.f147.params.toList=some ([.S 0,.J 0],⟨1,0,1,0,0,0⟩):=by kernel_rfl
set_option maxHeartbeats 2000000 in
def Kq:Ct Tryz.prog where
 f:=147
 spec:=fun args h φ=>∃ s i,args=[.string (B s),.int .i64 i]/\0<=i/\i<=s.length/\s.length<=1000000/\φ (.int .i64 (i+rn inB s i.toNat)) h
 ok:=by
  rintro args h φ w ⟨s,i,rfl,h0,h1,h2,hφ⟩ hH;obtain⟨a,rfl⟩:∃ n:Nat,i=n:=⟨i.toNat,by omega⟩;rw[Int.toNat_natCast] at hφ;refine bn Tryz.func147 PQ WI [l7] φ (fun _ C=>∃ k:Nat,C=⟨[a,k],[],[s],[],[],[],h,df⟩/\a<=k/\k<=s.length/\rn inB s a=(k - a)+rn inB s k) (fun _ C=>(s.length - C.i.getD 1 0).toNat) ⟨[a],[],[s],[],[],[],h,df⟩ ⟨rfl,rfl,rfl,rfl,rfl,rfl⟩ af ?_ w hH rfl;refine bI ⟨a,rfl,Nat.le_refl _,by omega,by omega⟩ ?_;rintro i bb ss v ll pp hh M ⟨k,hC,h3,h4,h5⟩ hM;cases hC;have hM':M 0=((s.length:Int) - k).toNat:=hM;have fin:rn inB s k=0->φ (.int .i64 k) h:=fun h0=>by
   rw[h0] at h5;rw[show (k:Int)=(a:Int)+(rn inB s a:Int) by omega];exact hφ
  by_cases hk:k<s.length
  . have hlt:(k:Int)<s.length:=by omega
    by_cases hb:0<jh (bt s k)
    . have hy:=jZ (p:=inB) hk (by simp[inB,hb]);simp[go_sem,l7,hlt,hb]
      (repeat' apply And.intro)<;>first | omega | exact⟨k+1,by omega,by omega,by omega,by omega⟩
    . have hn:=xY (p:=inB) hk (by simp[inB];omega);have:=fin hn;simp[go_sem,l7,hlt,hb,this]
  . have hge:¬ ((k:Int)<s.length):=by omega
    have:=fin (pq (by omega));simp[go_sem,l7,hge,this]
def IC:Fm:=(.ite (.eqS (.x 0) (.c [114,101,99]))
 (.ite (.eqS (.x 0) (.c [114,101,99]))
 (.ret (.p (.one (.b (.c true)))))
 (.ret (.p (.one (.b (.c false))))))
 (.ite (.eqS (.x 0) (.c [102,110]))
 (.ite (.eqS (.x 0) (.c [102,110]))
 (.ret (.p (.one (.b (.c true)))))
 (.ret (.p (.one (.b (.c false))))))
 (.ite (.eqS (.x 0) (.c [118,97,114]))
 (.ite (.eqS (.x 0) (.c [118,97,114]))
 (.ret (.p (.one (.b (.c true)))))
 (.ret (.p (.one (.b (.c false))))))
 (.ite (.eqS (.x 0) (.c [105,102]))
 (.ite (.eqS (.x 0) (.c [105,102]))
 (.ret (.p (.one (.b (.c true)))))
 (.ret (.p (.one (.b (.c false))))))
 (.ite (.eqS (.x 0) (.c [101,108,115,101]))
 (.ite (.eqS (.x 0) (.c [101,108,115,101]))
 (.ret (.p (.one (.b (.c true)))))
 (.ret (.p (.one (.b (.c false))))))
 (.ite (.eqS (.x 0) (.c [119,104,105,108,101]))
 (.ite (.eqS (.x 0) (.c [119,104,105,108,101]))
 (.ret (.p (.one (.b (.c true)))))
 (.ret (.p (.one (.b (.c false))))))
 (.ite (.eqS (.x 0) (.c [114,101,116,117,114,110]))
 (.ite (.eqS (.x 0) (.c [114,101,116,117,114,110]))
 (.ret (.p (.one (.b (.c true)))))
 (.ret (.p (.one (.b (.c false))))))
 (.ite (.eqS (.x 0) (.c [112,114,105,110,116]))
 (.ite (.eqS (.x 0) (.c [112,114,105,110,116]))
 (.ret (.p (.one (.b (.c true)))))
 (.ret (.p (.one (.b (.c false))))))
 (.ite (.eqS (.x 0) (.c [116,114,117,101]))
 (.ite (.eqS (.x 0) (.c [116,114,117,101]))
 (.ret (.p (.one (.b (.c true)))))
 (.ret (.p (.one (.b (.c false))))))
 (.ite (.eqS (.x 0) (.c [102,97,108,115,101]))
 (.ite (.eqS (.x 0) (.c [102,97,108,115,101]))
 (.ret (.p (.one (.b (.c true)))))
 (.ret (.p (.one (.b (.c false))))))
 (.ite (.eqS (.x 0) (.c [110,105,108]))
 (.ite (.eqS (.x 0) (.c [110,105,108]))
 (.ret (.p (.one (.b (.c true)))))
 (.ret (.p (.one (.b (.c false))))))
 (.ite (.eqS (.x 0) (.c [109,97,107,101]))
 (.ite (.eqS (.x 0) (.c [109,97,107,101]))
 (.ret (.p (.one (.b (.c true)))))
 (.ret (.p (.one (.b (.c false))))))
 (.ite (.eqS (.x 0) (.c [105,110,116]))
 (.ite (.eqS (.x 0) (.c [105,110,116]))
 (.ret (.p (.one (.b (.c true)))))
 (.ret (.p (.one (.b (.c false))))))
 (.ite (.eqS (.x 0) (.c [98,111,111,108]))
 (.ite (.eqS (.x 0) (.c [98,111,111,108]))
 (.ret (.p (.one (.b (.c true)))))
 (.ret (.p (.one (.b (.c false))))))
 (.ite (.eqS (.x 0) (.c [115,116,114]))
 (.ite (.eqS (.x 0) (.c [115,116,114]))
 (.ret (.p (.one (.b (.c true)))))
 (.ret (.p (.one (.b (.c false))))))
 (.ite (.eqS (.x 0) (.c [99,111,109,112]))
 (.ret (.p (.one (.b (.c true)))))
 (.ret (.p (.one (.b (.c false)))))))))))))))))))))
theorem Zc:aZ ⟨true,[]⟩ Tryz.prog (fun l=>([]:List bK).getD l ⟨[],[],[]⟩) Tryz.f118=IC:=by kernel_rfl
theorem ac8:az Tryz.prog .zero Tryz.f118.params.toList=some ([.S 0],⟨0,0,1,0,0,0⟩):=by kernel_rfl
def LK:Fm:=(.mk [(.s (.c [114,101,99])),(.s (.c [102,110])),(.s (.c [118,97,114])),(.s (.c [105,102])),(.s (.c [101,108,115,101])),(.s (.c [119,104,105,108,101])),(.s (.c [114,101,116,117,114,110])),(.s (.c [112,114,105,110,116])),(.s (.c [116,114,117,101])),(.s (.c [102,97,108,115,101])),(.s (.c [110,105,108])),(.s (.c [109,97,107,101])),(.s (.c [105,110,116])),(.s (.c [98,111,111,108])),(.s (.c [115,116,114])),(.s (.c [99,111,109,112]))] 9 16
 (.loop 0 ⟨[(.c 0)],[(.c false)],[],[],[],[]⟩
 (.ite (.lt (.x 0) (.cnt (.x 0)))
 (.N (.X (.x 0) (.x 0))
 (.O (.el (.x 0) (.x 0) 1 0) 1 [(.s (.x 1))] ⟨0,0,1,0,0,0⟩
 (.ite (.eqS (.x 1) (.x 0))
 (.ret (.p (.one (.b (.c true)))))
 (.N (.R (.add (.x 0) (.c 1)))
 (.again 0 ⟨0,0,1,0,1,0⟩ ⟨1,1,1,0,1,0⟩ ⟨[(.add (.x 0) (.c 1))],[(.x 0)],[],[],[],[]⟩)))))
 (.ret (.p (.one (.b (.c false))))))))
theorem VV:aZ ⟨true,[]⟩ Tryz.prog (fun l=>([⟨[2,8],[9,10,4,11,12,13,14,15,16,17],[]⟩]:List bK).getD l ⟨[],[],[]⟩) Tryz.f148=LK:=by kernel_rfl
theorem aap:az Tryz.prog .zero Tryz.f148.params.toList=some ([.S 0],⟨0,0,1,0,0,0⟩):=by kernel_rfl
def AZ:Fm:=(.C 115 [.P 0,(.one (.c (.fn 117)))] (.p (.J 4)) ⟨1,0,0,0,0,0⟩
 (.O (.pt 0 0) 1 [(.s (.x 1))] ⟨0,0,1,0,0,0⟩
 (.O (.pt 0 1) 1 [.J 5] ⟨1,0,0,0,0,0⟩
 (.O (.pt 0 1) 1 [.J 6] ⟨1,0,0,0,0,0⟩
 (.Z 0
 (.Z 0
 (.Z 0
 (.Z 0
 (.Z 0
 (.Z 0
 (.N (.R (.add (.x 6) (.x 4)))
 (.N (.and (.and (.le (.c 0) (.add (.x 6) (.x 4))) (.le (.add (.x 6) (.x 4)) (.len (.x 1)))) (.and (.le (.c 0) (.x 5)) (.le (.x 5) (.add (.x 6) (.x 4)))))
 (.N (.and (.le (.c 0) (.c 0)) (.lt (.c 0) (.len (.sub (.x 1) (.x 5) (.add (.x 6) (.x 4))))))
 (.C 74 [(.one (.i .u8 (.at (.sub (.x 1) (.x 5) (.add (.x 6) (.x 4))) (.c 0))))] (.p (.B 0)) ⟨0,1,0,0,0,0⟩
 (.ite (.x 0)
 (.V 114 [.P 0,.J 4]
 (.ret (.p (.agg [(.i .u8 (.c 2)),.J 1,.J 2,.J 3,(.s (.sub (.x 1) (.x 5) (.add (.x 6) (.x 4))))]))))
 (.C 118 [(.one (.s (.sub (.x 1) (.x 5) (.add (.x 6) (.x 4)))))] (.p (.B 1)) ⟨0,1,0,0,0,0⟩
 (.ite (.x 1)
 (.V 114 [.P 0,.J 4]
 (.ret (.p (.agg [(.i .u8 (.c 6)),.J 1,.J 2,.J 3,(.s (.sub (.x 1) (.x 5) (.add (.x 6) (.x 4))))]))))
 (.V 114 [.P 0,.J 4]
 (.ret (.p (.agg [(.i .u8 (.c 1)),.J 1,.J 2,.J 3,(.s (.sub (.x 1) (.x 5) (.add (.x 6) (.x 4))))])))))))))))))))))))))
theorem YW:aZ ⟨true,[]⟩ Tryz.prog (fun l=>([]:List bK).getD l ⟨[],[],[]⟩) Tryz.f75=AZ:=by kernel_rfl
theorem acT:az Tryz.prog .zero Tryz.f75.params.toList=some ([.P 0,.K 0 1 2 3 0],⟨4,0,1,0,0,1⟩):=by kernel_rfl
def U7:List (List UInt8):=[[114,101,99],[102,110],[118,97,114],[105,102],[101,108,115,101],[119,104,105,108,101],[114,101,116,117,114,110],[112,114,105,110,116],[116,114,117,101],[102,97,108,115,101],[110,105,108],[109,97,107,101],[105,110,116],[98,111,111,108],[115,116,114],[99,111,109,112]]
def jd (s:List UInt8):Bool:=U7.contains s
set_option maxHeartbeats 4000000 in
def BQ:Ct Tryz.prog where
 f:=118
 spec:=fun args h φ=>∃ s,args=[.string (B s)]/\φ (.bool (jd s)) h
 ok:=by
  rintro args h φ w ⟨s,rfl,hφ⟩ hH;refine bn Tryz.func118 Zc ac8 [] φ bP bu ⟨[],[],[s],[],[],[],h,df⟩ ⟨rfl,rfl,rfl,rfl,rfl,rfl⟩ af ?_ w hH rfl;by_cases hs:s∈U7
  . have e:jd s=true:=by simpa[jd] using hs
    rw[e] at hφ;simp only[U7,List.mem_cons,List.not_mem_nil,or_false] at hs;rcases hs with rfl | rfl | rfl | rfl | rfl | rfl | rfl | rfl | rfl | rfl | rfl | rfl | rfl | rfl | rfl | rfl
    all_goals simp[IC,go_sem,hφ]
  . have e:jd s=false:=by simpa[jd] using hs
    rw[e] at hφ;simp only[U7,List.mem_cons,List.not_mem_nil,or_false,not_or] at hs;obtain⟨h1,h2,h3,h4,h5,h6,h7,h8,h9,h10,h11,h12,h13,h14,h15,h16⟩:=hs;simp[IC,go_sem,hφ,h1,h2,h3,h4,h5,h6,h7,h8,h9,h10,h11,h12,h13,h14,h15,h16]
def zl:List Value:=U7.map fun x=>.string (B x)
set_option maxHeartbeats 4000000 in
def Si:Ct Tryz.prog where
 f:=148
 spec:=fun args h φ=>∃ s,args=[.string (B s)]/\∀ k,dA h k->φ (.bool (jd s)) k
 ok:=by
  rintro args h φ w ⟨s,rfl,hφ⟩ hH;refine bn Tryz.func148 VV aap [] φ (fun _ C=>∃ (b:Nat) (i:Nat) (y:Bool),h b=none/\C=⟨[i],[y],[s],[],[⟨some (b,0),16,16⟩],[],h.set b ⟨zl,9⟩,df⟩/\i<=16/\∀ j,j<i->U7[j]?≠some s) (fun _ C=>(16 - C.i.getD 0 0).toNat) ⟨[],[],[s],[],[],[],h,df⟩ ⟨rfl,rfl,rfl,rfl,rfl,rfl⟩ af ?_ w hH rfl;rw[LK,x9];intro b hb;refine bI ⟨b,0,false,hb,rfl,by omega,by omega⟩ ?_;rintro i bb ss v ll pp hh M ⟨b,k,y,hb,hC,h3,h4⟩ hM;cases hC;have hM':M 0=((16:Int) - k).toNat:=hM;have hk:=fE hb ⟨zl,9⟩;by_cases hlt:k<16
  . have hlt':(k:Int)<16:=by omega
    have hx:k<U7.length:=hlt;have hget:(zl.drop k).take 1=[.string (B U7[k])]:=by
     rw[List.drop_eq_getElem_cons (by simpa[zl] using hx)];simp[zl]
    have hwl:zl.length=16:=rfl;by_cases he:U7[k]=s
    . have e:jd s=true:=by rw[<- he];simp[jd]
      have:=hφ _ hk;rw[e] at this;simp[go_sem,hlt',hget,hwl,he,this];omega
    . have hne:∀ j,j<k+1->U7[j]?≠some s:=fun j hj=>by
       by_cases hjk:j=k
       . subst hjk;rw[List.getElem?_eq_getElem hx];simpa using he
       . exact h4 j (by omega)
      simp[go_sem,hlt',hget,hwl,he];refine⟨by omega,by omega,by omega,⟨b,hb,k+1,by cases y<;>simp,by omega,by simpa using hne⟩,by omega⟩
  . have hge:¬ ((k:Int)<16):=by omega
    have e:jd s=false:=by
     cases hq:jd s
     . rfl
     . exfalso;have hm:s∈U7:=by simpa[jd] using hq
       obtain⟨j,hj⟩:=List.getElem?_of_mem hm;have hjl:j<16:=(List.getElem?_eq_some_iff.1 hj).1;exact h4 j (by omega) hj
    have:=hφ _ hk;rw[e] at this;simp[go_sem,hge,this]
def fM (k l c n:Int) (x:List UInt8):Value:=.agg #[.int .u8 k,.int .i64 l,.int .i64 c,.int .i64 n,.string (B x)]
def kS (b:Int) (x:List UInt8):Int:=if jh b=2 then 2 else if jd x then 6 else 1
theorem aex (s:List UInt8) (i j:Nat) (h:i<j) (_hj:j<=s.length):bt (sub s i j) 0=bt s i:=by
 unfold sub;rw[ou,Nat.add_zero];unfold bt;simp[List.getD_eq_getElem?_getD,h]
set_option maxHeartbeats 4000000 in
def Ij:Ct Tryz.prog where
 f:=75
 spec:=fun args h φ=>∃ b k l c n x s a L Co,∃ T:Rw,args=[.pointer (some ⟨b,0,none⟩),fM k l c n x]/\h b=some ⟨rc s a L Co,T⟩/\0<=a/\a<s.length/\s.length<=100000/\0<=Co/\Co<=500000/\inB (bt s a.toNat)=true/\
  φ (fM (kS (bt s a.toNat) (sub s a.toNat (a.toNat+rn inB s a.toNat))) l c n (sub s a.toNat (a.toNat+rn inB s a.toNat))) (h.set b ⟨rc s (a+rn inB s a.toNat) L (Co+rn inB s a.toNat),T⟩)
 ok:=by
  rintro args h φ w ⟨b,k,l,c,n,x,s,a,L,Co,T,rfl,hb,h0,h1,h2,c0,c1,hin,hφ⟩ hH;obtain⟨h,rfl⟩:∃ h',h=Hp.set h' b ⟨rc s a L Co,T⟩:=⟨h,set_self hb⟩;obtain⟨a,rfl⟩:∃ n:Nat,a=n:=⟨a.toNat,by omega⟩;rw[Int.toNat_natCast] at hφ hin;rw[dZ] at hφ;have hle:=D7 (p:=inB) (s:=s) (i:=a) (by omega);have hy:=jZ (p:=inB) (s:=s) (i:=a) (by omega) hin;have hb0:=aex s a (a+rn inB s a) (by omega) hle;have hsl:=Bl s (i:=a) hle;refine bn Tryz.func75 YW acT [zJ,iW,BQ,jy] φ bP bu ⟨[k,l,c,n],[],[x],[],[],[some (b,0)],h.set b ⟨rc s a L Co,T⟩,df⟩ ⟨rfl,rfl,rfl,rfl,rfl,rfl⟩ af ?_ w hH rfl;generalize hN:rn inB s a=N at *;have e1:((a:Int)+(N:Int)).toNat=a+N:=by omega
  have e2:List.drop a (List.take (a+N) s)=sub s a (a+N):=rfl;cases hg:OG (bt s a)
  . have hk:¬ jh (bt s a)=2:=by simpa[OG] using hg
    cases hw:jd (sub s a (a+N))
    . rw[kS,if_neg hk,hw] at hφ;simp[AZ,go_sem,rc,zJ,oN,iW,BQ,jy,hN,e1,e2,hb0,hg,hw]
      (repeat' apply And.intro)<;>first | omega | simpa[rc,fM] using hφ
    . rw[kS,if_neg hk,hw] at hφ;simp[AZ,go_sem,rc,zJ,oN,iW,BQ,jy,hN,e1,e2,hb0,hg,hw]
      (repeat' apply And.intro)<;>first | omega | simpa[rc,fM] using hφ
  . have hk:jh (bt s a)=2:=by simpa[OG] using hg
    rw[kS,if_pos hk] at hφ;simp[AZ,go_sem,rc,zJ,oN,iW,BQ,jy,hN,e1,e2,hb0,hg]
    (repeat' apply And.intro)<;>first | omega | simpa[rc,fM] using hφ
end
end Go.Proofs.YtllbpdllkkcajaaGreatDoor
namespace Go.Proofs
open Go.Shelf
def Tryz.lays161_ren:Go.Shelf.Ren:=⟨fun | 161=>119 | 231=>139 | 227=>140 | 233=>141 | 235=>142 | 228=>155 | 197=>156 | 151=>157 | 260=>166 | 152=>167 | 137=>168 | 119=>170 | 224=>171 | 225=>172 | 217=>173 | 266=>174 | n=>n,fun | 9=>9 | 4=>4 | 3=>3 | 5=>5 | 117=>149 | 116=>148 | 0=>0 | 124=>152 | 105=>161 | 21=>21 | 119=>174 | 46=>139 | 139=>177 | 138=>176 | n=>n,fun | 3=>0 | 4=>1 | n=>n⟩
theorem Tryz.lays161:Go.Proofs.Lays.n161 Tryz.prog Tryz.lays161_ren:={
 mixed:=by kernel_rfl
 f119:=Tryz.func170.trans (congrArg some (by kernel_rfl))
 f137:=Tryz.func168.trans (congrArg some (by kernel_rfl))
 f151:=Tryz.func157.trans (congrArg some (by kernel_rfl))
 f152:=Tryz.func167.trans (congrArg some (by kernel_rfl))
 f161:=Tryz.func119.trans (congrArg some (by kernel_rfl))
 f197:=Tryz.func156.trans (congrArg some (by kernel_rfl))
 f217:=Tryz.func173.trans (congrArg some (by kernel_rfl))
 f224:=Tryz.func171.trans (congrArg some (by kernel_rfl))
 f225:=Tryz.func172.trans (congrArg some (by kernel_rfl))
 f227:=Tryz.func140.trans (congrArg some (by kernel_rfl))
 f228:=Tryz.func155.trans (congrArg some (by kernel_rfl))
 f231:=Tryz.func139.trans (congrArg some (by kernel_rfl))
 f233:=Tryz.func141.trans (congrArg some (by kernel_rfl))
 f235:=Tryz.func142.trans (congrArg some (by kernel_rfl))
 f260:=Tryz.func166.trans (congrArg some (by kernel_rfl))
 f266:=Tryz.func174.trans (congrArg some (by kernel_rfl))
 t0:=Tryz.underlying0
 a0:=Tryz.isAgg0
 z0:=Tryz.sizeOf0
 v0:=Tryz.zeroValue0
 t3:=Tryz.underlying3
 a3:=Tryz.isAgg3
 z3:=Tryz.sizeOf3
 v3:=Tryz.zeroValue3
 t4:=Tryz.underlying4
 a4:=Tryz.isAgg4
 z4:=Tryz.sizeOf4
 v4:=Tryz.zeroValue4
 t5:=Tryz.underlying5
 a5:=Tryz.isAgg5
 z5:=Tryz.sizeOf5
 v5:=Tryz.zeroValue5
 t9:=Tryz.underlying9
 a9:=Tryz.isAgg9
 z9:=Tryz.sizeOf9
 v9:=Tryz.zeroValue9
 t21:=Tryz.underlying21
 a21:=Tryz.isAgg21
 z21:=Tryz.sizeOf21
 v21:=Tryz.zeroValue21
 t46:=Tryz.underlying139
 a46:=Tryz.isAgg139
 z46:=Tryz.sizeOf139
 v46:=Tryz.zeroValue139
 t105:=Tryz.underlying161
 a105:=Tryz.isAgg161
 z105:=Tryz.sizeOf161
 v105:=Tryz.zeroValue161
 t116:=Tryz.underlying148
 a116:=Tryz.isAgg148
 z116:=Tryz.sizeOf148
 t117:=Tryz.underlying149
 a117:=Tryz.isAgg149
 z117:=Tryz.sizeOf149
 v117:=Tryz.zeroValue149
 t119:=Tryz.underlying174
 a119:=Tryz.isAgg174
 z119:=Tryz.sizeOf174
 t124:=Tryz.underlying152
 a124:=Tryz.isAgg152
 z124:=Tryz.sizeOf152
 v124:=Tryz.zeroValue152
 t138:=Tryz.underlying176
 a138:=Tryz.isAgg176
 z138:=Tryz.sizeOf176
 v138:=Tryz.zeroValue176
 t139:=Tryz.underlying177
 a139:=Tryz.isAgg177
 z139:=Tryz.sizeOf177
 v139:=Tryz.zeroValue177
 g3:=by kernel_rfl
 g4:=by kernel_rfl }
open Go.RowKit in
theorem Tryz.strings_TrimLeft_one (s:ByteArray) (c:UInt8) (hc:c.toNat<128) (w:World):
 Calls Tryz.prog 119 #[.string s,.string ⟨#[c]⟩] w fun e w'=>e=.returned (.string ⟨(Lib.trimLeftB s.data.toList c).toArray⟩)/\w'=w:=Any.strings_TrimLeft_one Tryz.lays161 s c hc w
def Tryz.lays137_ren:Go.Shelf.Ren:=⟨fun | 137=>168 | 217=>173 | 266=>174 | n=>n,fun | 9=>9 | 5=>5 | 3=>3 | n=>n,fun | n=>n⟩
theorem Tryz.lays137:Go.Proofs.Lays.n137 Tryz.prog Tryz.lays137_ren:={
 mixed:=by kernel_rfl
 f137:=Tryz.func168.trans (congrArg some (by kernel_rfl))
 f217:=Tryz.func173.trans (congrArg some (by kernel_rfl))
 f266:=Tryz.func174.trans (congrArg some (by kernel_rfl))
 t3:=Tryz.underlying3
 a3:=Tryz.isAgg3
 z3:=Tryz.sizeOf3
 v3:=Tryz.zeroValue3
 t5:=Tryz.underlying5
 a5:=Tryz.isAgg5
 z5:=Tryz.sizeOf5
 v5:=Tryz.zeroValue5
 t9:=Tryz.underlying9
 a9:=Tryz.isAgg9
 z9:=Tryz.sizeOf9
 v9:=Tryz.zeroValue9 }
open Go.RowKit in
theorem Tryz.strings_IndexByte (s:ByteArray) (c:Int) (w:World):
 Calls Tryz.prog 168 #[.string s,.int .u8 c] w fun e w'=>e=.returned (.int .i64 (Lib.indexByte s.data.toList c.toNat.toUInt8))/\w'=w:=Any.strings_IndexByte Tryz.lays137 s c w
def Tryz.lays99_ren:Go.Shelf.Ren:=⟨fun | 99=>126 | 206=>144 | n=>n,fun | 9=>9 | 4=>4 | 3=>3 | n=>n,fun | n=>n⟩
theorem Tryz.lays99:Go.Proofs.Lays.n99 Tryz.prog Tryz.lays99_ren:={
 mixed:=by kernel_rfl
 f99:=Tryz.func126.trans (congrArg some (by kernel_rfl))
 f206:=Tryz.func144.trans (congrArg some (by kernel_rfl))
 t3:=Tryz.underlying3
 a3:=Tryz.isAgg3
 z3:=Tryz.sizeOf3
 v3:=Tryz.zeroValue3
 t4:=Tryz.underlying4
 a4:=Tryz.isAgg4
 z4:=Tryz.sizeOf4
 v4:=Tryz.zeroValue4
 t9:=Tryz.underlying9
 a9:=Tryz.isAgg9
 z9:=Tryz.sizeOf9
 v9:=Tryz.zeroValue9 }
open Go.RowKit Go.Lib in
theorem Tryz.strings_HasPrefix (s p:ByteArray) (w:World):
 Calls Tryz.prog 126 #[.string s,.string p] w fun e w'=>e=.returned (.bool (Lib.hasPrefix s.data.toList p.data.toList))/\w'=w:=Any.strings_HasPrefix Tryz.lays99 s p w
def Tryz.lays105_ren:Go.Shelf.Ren:=⟨fun | 105=>136 | 212=>151 | 99=>126 | 165=>152 | 166=>68 | 170=>153 | 169=>27 | 263=>163 | 264=>164 | 206=>144 | 240=>104 | 241=>165 | 276=>137 | 277=>169 | n=>n,fun | 9=>9 | 3=>3 | 4=>4 | 20=>20 | 0=>0 | 46=>139 | 109=>157 | 5=>5 | 72=>46 | 76=>97 | 51=>166 | 146=>167 | 53=>90 | 148=>169 | 70=>43 | 37=>44 | 75=>96 | 127=>88 | 164=>144 | 80=>50 | n=>n,fun | n=>n⟩
theorem Tryz.lays105:Go.Proofs.Lays.n105 Tryz.prog Tryz.lays105_ren:={
 mixed:=by kernel_rfl
 f99:=Tryz.func126.trans (congrArg some (by kernel_rfl))
 f105:=Tryz.func136.trans (congrArg some (by kernel_rfl))
 f165:=Tryz.func152.trans (congrArg some (by kernel_rfl))
 f166:=Tryz.func68.trans (congrArg some (by kernel_rfl))
 f169:=Tryz.func27.trans (congrArg some (by kernel_rfl))
 f170:=Tryz.func153.trans (congrArg some (by kernel_rfl))
 f206:=Tryz.func144.trans (congrArg some (by kernel_rfl))
 f212:=Tryz.func151.trans (congrArg some (by kernel_rfl))
 f240:=Tryz.func104.trans (congrArg some (by kernel_rfl))
 f241:=Tryz.func165.trans (congrArg some (by kernel_rfl))
 f263:=Tryz.func163.trans (congrArg some (by kernel_rfl))
 f264:=Tryz.func164.trans (congrArg some (by kernel_rfl))
 f276:=Tryz.func137.trans (congrArg some (by kernel_rfl))
 f277:=Tryz.func169.trans (congrArg some (by kernel_rfl))
 t0:=Tryz.underlying0
 a0:=Tryz.isAgg0
 z0:=Tryz.sizeOf0
 v0:=Tryz.zeroValue0
 t3:=Tryz.underlying3
 a3:=Tryz.isAgg3
 z3:=Tryz.sizeOf3
 v3:=Tryz.zeroValue3
 t4:=Tryz.underlying4
 a4:=Tryz.isAgg4
 z4:=Tryz.sizeOf4
 v4:=Tryz.zeroValue4
 t5:=Tryz.underlying5
 a5:=Tryz.isAgg5
 z5:=Tryz.sizeOf5
 v5:=Tryz.zeroValue5
 t9:=Tryz.underlying9
 a9:=Tryz.isAgg9
 z9:=Tryz.sizeOf9
 v9:=Tryz.zeroValue9
 t20:=Tryz.underlying20
 a20:=Tryz.isAgg20
 z20:=Tryz.sizeOf20
 v20:=Tryz.zeroValue20
 t37:=Tryz.underlying44
 a37:=Tryz.isAgg44
 z37:=Tryz.sizeOf44
 v37:=Tryz.zeroValue44
 t46:=Tryz.underlying139
 a46:=Tryz.isAgg139
 z46:=Tryz.sizeOf139
 v46:=Tryz.zeroValue139
 t51:=Tryz.underlying166
 a51:=Tryz.isAgg166
 z51:=Tryz.sizeOf166
 v51:=Tryz.zeroValue166
 t53:=Tryz.underlying90
 a53:=Tryz.isAgg90
 z53:=Tryz.sizeOf90
 v53:=Tryz.zeroValue90
 t70:=Tryz.underlying43
 a70:=Tryz.isAgg43
 z70:=Tryz.sizeOf43
 v70:=Tryz.zeroValue43
 t72:=Tryz.underlying46
 a72:=Tryz.isAgg46
 z72:=Tryz.sizeOf46
 v72:=Tryz.zeroValue46
 t75:=Tryz.underlying96
 a75:=Tryz.isAgg96
 z75:=Tryz.sizeOf96
 v75:=Tryz.zeroValue96
 t76:=Tryz.underlying97
 a76:=Tryz.isAgg97
 z76:=Tryz.sizeOf97
 v76:=Tryz.zeroValue97
 t109:=Tryz.underlying157
 a109:=Tryz.isAgg157
 z109:=Tryz.sizeOf157
 v109:=Tryz.zeroValue157
 t127:=Tryz.underlying88
 a127:=Tryz.isAgg88
 z127:=Tryz.sizeOf88
 v127:=Tryz.zeroValue88
 t146:=Tryz.underlying167
 a146:=Tryz.isAgg167
 z146:=Tryz.sizeOf167
 v146:=Tryz.zeroValue167
 t148:=Tryz.underlying169
 a148:=Tryz.isAgg169
 z148:=Tryz.sizeOf169
 v148:=Tryz.zeroValue169
 t164:=Tryz.underlying144
 a164:=Tryz.isAgg144
 z164:=Tryz.sizeOf144
 v164:=Tryz.zeroValue144 }
theorem Tryz.Builder_Extra_105:Builder.Extra Tryz.prog Tryz.lays105_ren:={
 sizeBuilder:=by kernel_rfl
 liesBuilder:=by kernel_rfl
 t5:=Tryz.underlying5
 a5:=Tryz.isAgg5
 z5:=Tryz.sizeOf5
 v5:=Tryz.zeroValue5
 infoByte:=by kernel_rfl
 cellsByte:=by kernel_rfl
 sizeByte:=by kernel_rfl
 neB5:=by decide }
open Go.RowKit Go.Lib in
theorem Tryz.strings_Repeat (s:ByteArray) (c:Nat) (w:World) (hc:c<=9223372036854775807) (hlen:s.size*c<=140737488355328):
 Calls Tryz.prog 136 #[.string s,.int .i64 c] w fun e w'=>e=.returned (.string ⟨(Lib.repeatL s.data.toList c).toArray⟩)/\Below w.heap.size w w':=Any.strings_Repeat Tryz.lays105 Tryz.Builder_Extra_105 s c w hc hlen
end Go.Proofs
namespace Go.Proofs.YtllbpdllkkcajaaGreatDoor
open Go.RowKit
def Fv:Fm:=(.C 115 [.P 0,(.one (.c (.fn 76)))] (.p (.J 4)) ⟨1,0,0,0,0,0⟩
 (.O (.pt 0 0) 1 [(.s (.x 1))] ⟨0,0,1,0,0,0⟩
 (.O (.pt 0 1) 1 [.J 5] ⟨1,0,0,0,0,0⟩
 (.O (.pt 0 1) 1 [.J 6] ⟨1,0,0,0,0,0⟩
 (.Z 0
 (.Z 0
 (.Z 0
 (.Z 0
 (.Z 0
 (.Z 0
 (.N (.R (.add (.x 6) (.x 4)))
 (.N (.and (.and (.le (.c 0) (.add (.x 6) (.x 4))) (.le (.add (.x 6) (.x 4)) (.len (.x 1)))) (.and (.le (.c 0) (.x 5)) (.le (.x 5) (.add (.x 6) (.x 4)))))
 (.O (.pt 0 1) 1 [.J 7] ⟨1,0,0,0,0,0⟩
 (.O (.pt 0 0) 1 [(.s (.x 2))] ⟨0,0,1,0,0,0⟩
 (.load (.lt (.add (.x 7) (.x 4)) (.len (.x 2))) (.pt 0 0) 1 [(.s (.x 3))] ⟨0,0,1,0,0,0⟩
 (.load (.lt (.add (.x 7) (.x 4)) (.len (.x 2))) (.pt 0 1) 1 [.J 8] ⟨1,0,0,0,0,0⟩
 (.Z 0
 (.Z 0
 (.N (.R (.add (.x 7) (.x 4)))
 (.Z 0
 (.Z 0
 (.need (.lt (.add (.x 7) (.x 4)) (.len (.x 2))) (.nnp 0)
 (.need (.lt (.add (.x 7) (.x 4)) (.len (.x 2))) (.nnp 0)
 (.need (.lt (.add (.x 7) (.x 4)) (.len (.x 2))) (.nnp 0)
 (.need (.lt (.add (.x 7) (.x 4)) (.len (.x 2))) (.nnp 0)
 (.need (.lt (.add (.x 7) (.x 4)) (.len (.x 2))) (.R (.add (.x 8) (.x 4)))
 (.need (.lt (.add (.x 7) (.x 4)) (.len (.x 2))) (.and (.le (.c 0) (.add (.x 8) (.x 4))) (.lt (.add (.x 8) (.x 4)) (.len (.x 3))))
 (.ite (.and (.lt (.add (.x 7) (.x 4)) (.len (.x 2))) (.eqI (.at (.x 3) (.add (.x 8) (.x 4))) (.c 105)))
 (.N (.R (.add (.x 4) (.c 1)))
 (.O (.pt 0 1) 1 [.J 9] ⟨1,0,0,0,0,0⟩
 (.O (.pt 0 0) 1 [(.s (.x 4))] ⟨0,0,1,0,0,0⟩
 (.load (.lt (.add (.x 9) (.add (.x 4) (.c 1))) (.len (.x 4))) (.pt 0 0) 1 [(.s (.x 5))] ⟨0,0,1,0,0,0⟩
 (.load (.lt (.add (.x 9) (.add (.x 4) (.c 1))) (.len (.x 4))) (.pt 0 1) 1 [.J 10] ⟨1,0,0,0,0,0⟩
 (.Z 0
 (.Z 0
 (.N (.R (.add (.x 9) (.add (.x 4) (.c 1))))
 (.Z 0
 (.Z 0
 (.need (.lt (.add (.x 9) (.add (.x 4) (.c 1))) (.len (.x 4))) (.nnp 0)
 (.need (.lt (.add (.x 9) (.add (.x 4) (.c 1))) (.len (.x 4))) (.nnp 0)
 (.need (.lt (.add (.x 9) (.add (.x 4) (.c 1))) (.len (.x 4))) (.nnp 0)
 (.need (.lt (.add (.x 9) (.add (.x 4) (.c 1))) (.len (.x 4))) (.nnp 0)
 (.need (.lt (.add (.x 9) (.add (.x 4) (.c 1))) (.len (.x 4))) (.R (.add (.x 10) (.add (.x 4) (.c 1))))
 (.need (.lt (.add (.x 9) (.add (.x 4) (.c 1))) (.len (.x 4))) (.and (.le (.c 0) (.add (.x 10) (.add (.x 4) (.c 1)))) (.lt (.add (.x 10) (.add (.x 4) (.c 1))) (.len (.x 5))))
 (.call (.lt (.add (.x 9) (.add (.x 4) (.c 1))) (.len (.x 4))) false 117 [(.one (.i .u8 (.at (.x 5) (.add (.x 10) (.add (.x 4) (.c 1))))))] (.p (.B 0)) ⟨0,1,0,0,0,0⟩
 (.ite (.and (.lt (.add (.x 9) (.add (.x 4) (.c 1))) (.len (.x 4))) (.x 0))
 (.ret (.tup [(.agg [(.i .u8 (.c 0)),(.i .i64 (.c 0)),(.i .i64 (.c 0)),(.i .i64 (.c 0)),(.s (.c []))]),(.I (.c 4))]))
 (.C 119 [(.one (.s (.sub (.x 1) (.x 5) (.add (.x 6) (.x 4))))),.W [48]] (.p (.S 6)) ⟨0,0,1,0,0,0⟩
 (.ite (.eqS (.x 6) (.c []))
 (.C 120 [.W [48]] (.tup [.J 11,.J 12]) ⟨2,0,0,0,0,0⟩
 (.ite (.or (.not (.eqI (.x 12) (.c 0))) (.lt (.c 8388607) (.x 11)))
 (.ret (.tup [(.agg [(.i .u8 (.c 0)),(.i .i64 (.c 0)),(.i .i64 (.c 0)),(.i .i64 (.c 0)),(.s (.c []))]),(.I (.c 14))]))
 (.V 114 [.P 0,(.I (.add (.x 4) (.c 1)))]
 (.ret (.tup [(.agg [(.i .u8 (.c 4)),.J 1,.J 2,.J 11,(.s (.x 0))]),(.I (.c 0))])))))
 (.C 120 [.S 6] (.tup [.J 11,.J 12]) ⟨2,0,0,0,0,0⟩
 (.ite (.or (.not (.eqI (.x 12) (.c 0))) (.lt (.c 8388607) (.x 11)))
 (.ret (.tup [(.agg [(.i .u8 (.c 0)),(.i .i64 (.c 0)),(.i .i64 (.c 0)),(.i .i64 (.c 0)),(.s (.c []))]),(.I (.c 14))]))
 (.V 114 [.P 0,(.I (.add (.x 4) (.c 1)))]
 (.ret (.tup [(.agg [(.i .u8 (.c 4)),.J 1,.J 2,.J 11,(.s (.x 0))]),(.I (.c 0))])))))))))))))))))))))))))
 (.O (.pt 0 1) 1 [.J 9] ⟨1,0,0,0,0,0⟩
 (.O (.pt 0 0) 1 [(.s (.x 4))] ⟨0,0,1,0,0,0⟩
 (.load (.lt (.add (.x 9) (.x 4)) (.len (.x 4))) (.pt 0 0) 1 [(.s (.x 5))] ⟨0,0,1,0,0,0⟩
 (.load (.lt (.add (.x 9) (.x 4)) (.len (.x 4))) (.pt 0 1) 1 [.J 10] ⟨1,0,0,0,0,0⟩
 (.Z 0
 (.Z 0
 (.N (.R (.add (.x 9) (.x 4)))
 (.Z 0
 (.Z 0
 (.need (.lt (.add (.x 9) (.x 4)) (.len (.x 4))) (.nnp 0)
 (.need (.lt (.add (.x 9) (.x 4)) (.len (.x 4))) (.nnp 0)
 (.need (.lt (.add (.x 9) (.x 4)) (.len (.x 4))) (.nnp 0)
 (.need (.lt (.add (.x 9) (.x 4)) (.len (.x 4))) (.nnp 0)
 (.need (.lt (.add (.x 9) (.x 4)) (.len (.x 4))) (.R (.add (.x 10) (.x 4)))
 (.need (.lt (.add (.x 9) (.x 4)) (.len (.x 4))) (.and (.le (.c 0) (.add (.x 10) (.x 4))) (.lt (.add (.x 10) (.x 4)) (.len (.x 5))))
 (.call (.lt (.add (.x 9) (.x 4)) (.len (.x 4))) false 117 [(.one (.i .u8 (.at (.x 5) (.add (.x 10) (.x 4)))))] (.p (.B 0)) ⟨0,1,0,0,0,0⟩
 (.ite (.and (.lt (.add (.x 9) (.x 4)) (.len (.x 4))) (.x 0))
 (.ret (.tup [(.agg [(.i .u8 (.c 0)),(.i .i64 (.c 0)),(.i .i64 (.c 0)),(.i .i64 (.c 0)),(.s (.c []))]),(.I (.c 4))]))
 (.C 119 [(.one (.s (.sub (.x 1) (.x 5) (.add (.x 6) (.x 4))))),.W [48]] (.p (.S 6)) ⟨0,0,1,0,0,0⟩
 (.ite (.eqS (.x 6) (.c []))
 (.C 120 [.W [48]] (.tup [.J 11,.J 12]) ⟨2,0,0,0,0,0⟩
 (.ite (.or (.not (.eqI (.x 12) (.c 0))) (.lt (.c 9223372036854775807) (.x 11)))
 (.ret (.tup [(.agg [(.i .u8 (.c 0)),(.i .i64 (.c 0)),(.i .i64 (.c 0)),(.i .i64 (.c 0)),(.s (.c []))]),(.I (.c 14))]))
 (.V 114 [.P 0,.J 4]
 (.ret (.tup [(.agg [(.i .u8 (.c 3)),.J 1,.J 2,.J 11,(.s (.x 0))]),(.I (.c 0))])))))
 (.C 120 [.S 6] (.tup [.J 11,.J 12]) ⟨2,0,0,0,0,0⟩
 (.ite (.or (.not (.eqI (.x 12) (.c 0))) (.lt (.c 9223372036854775807) (.x 11)))
 (.ret (.tup [(.agg [(.i .u8 (.c 0)),(.i .i64 (.c 0)),(.i .i64 (.c 0)),(.i .i64 (.c 0)),(.s (.c []))]),(.I (.c 14))]))
 (.V 114 [.P 0,.J 4]
 (.ret (.tup [(.agg [(.i .u8 (.c 3)),.J 1,.J 2,.J 11,(.s (.x 0))]),(.I (.c 0))]))))))))))))))))))))))))))))))))))))))))))))))))))))
theorem Pz:aZ ⟨true,[]⟩ Tryz.prog (fun l=>([]:List bK).getD l ⟨[],[],[]⟩) Tryz.f77=Fv:=by kernel_rfl
theorem WA:az Tryz.prog .zero Tryz.f77.params.toList=some ([.P 0,.K 0 1 2 3 0],⟨4,0,1,0,0,1⟩):=by kernel_rfl
def strip:List UInt8->List UInt8
 | a::c::t=>if a.toNat=48 then strip (c::t) else a::c::t
 | l=>l
theorem Ri (d:List UInt8) (hne:d≠[]):strip d=if Lib.trimLeftB d 48=[] then [48] else Lib.trimLeftB d 48:=by
 induction d with
 | nil=>exact absurd rfl hne
 | cons a t ih=>
   have e48:(a==48)=decide (a.toNat=48):=by
    rw[Bool.eq_iff_iff];simp;constructor
    . rintro rfl;rfl
    . intro h;exact UInt8.toNat_inj.1 (by simpa using h)
   cases t with
   | nil=>
     simp only[strip,Lib.trimLeftB,List.dropWhile_cons,List.dropWhile_nil,e48];by_cases h:a.toNat=48
     . have:a=48:=UInt8.toNat_inj.1 (by simpa using h);subst this;simp
     . simp[h]
   | cons c t=>
     simp only[strip];by_cases h:a.toNat=48
     . rw[if_pos h,ih (by simp)];have:Lib.trimLeftB (a::c::t) 48=Lib.trimLeftB (c::t) 48:=by
        simp only[Lib.trimLeftB,List.dropWhile_cons,e48,h,decide_true,if_true]
       rw[this]
     . rw[if_neg h];have:Lib.trimLeftB (a::c::t) 48=a::c::t:=by
        simp only[Lib.trimLeftB,List.dropWhile_cons,e48,h,decide_false];rfl
       rw[this];simp
def qc (k most:Int) (d:List UInt8) (e:Nat):Int×Int×Int×Nat:=
 if (pv (strip d)).2=0/\(pv (strip d)).1<=most then (0,k,(pv (strip d)).1,e) else (14,0,0,0)
def nm (s:List UInt8) (i:Nat):Int×Int×Int×Nat:=
 if rn inB s (i+rn kY s i)=0 then qc 3 9223372036854775807 (sub s i (i+rn kY s i)) (i+rn kY s i)
 else if rn inB s (i+rn kY s i)=1/\bt s (i+rn kY s i)=105 then qc 4 8388607 (sub s i (i+rn kY s i)) (i+rn kY s i+1)
 else (4,0,0,0)
def Sr:Ct Tryz.prog where
 f:=119
 spec:=fun args h φ=>∃ d,args=[.string (B d),.string (B [48])]/\φ (.string (B (Lib.trimLeftB d 48))) h
 ok:=by
  rintro args h φ w ⟨d,rfl,hφ⟩ hH;refine AY (v:=.string (B (Lib.trimLeftB d 48))) ((Tryz.strings_TrimLeft_one (B d) 48 (by decide) w).mono fun e w' ⟨he,hw⟩=>⟨?_,hw.symm⟩) hφ hH;rw[he];simp[B]
def BN:Ct Tryz.prog where
 f:=120
 spec:=fun args h φ=>∃ l,args=[.string (B l)]/\l.length<1000000/\φ (.tuple #[.int .i64 (pv l).1,.int .i64 (pv l).2]) h
 ok:=by rintro args h φ w ⟨l,rfl,hl,hφ⟩ hH;exact AY (QB l w hl) hφ hH
theorem ER (d:List UInt8) (c:UInt8):(Lib.trimLeftB d c).length<=d.length:=by
 unfold Lib.trimLeftB;exact (List.dropWhile_sublist _).length_le
section
attribute [local go_sem] bg bf aC aj au aI aU aH aK eu jB ik ax says_again cu
theorem afV:inB 105=true:=by decide
set_option maxRecDepth 100000 in
set_option maxHeartbeats 8000000 in
def wY:Ct Tryz.prog where
 f:=77
 spec:=fun args h φ=>∃ b k l c n x s a L Co,∃ T:Rw,args=[.pointer (some ⟨b,0,none⟩),fM k l c n x]/\h b=some ⟨rc s a L Co,T⟩/\0<=a/\a<s.length/\s.length<=100000/\0<=Co/\Co<=500000/\kY (bt s a.toNat)=true/\
  (if (nm s a.toNat).1=0 then φ (.tuple #[fM (nm s a.toNat).2.1 l c (nm s a.toNat).2.2.1 x,.int .i64 0]) (h.set b ⟨rc s ((nm s a.toNat).2.2.2:Nat) L (Co+((nm s a.toNat).2.2.2:Nat) - a),T⟩)
   else φ (.tuple #[fM 0 0 0 0 [],.int .i64 (nm s a.toNat).1]) h)
 ok:=by
  rintro args h φ w ⟨b,k,l,c,n,x,s,a,L,Co,T,rfl,hb,h0,h1,h2,c0,c1,hdg,hφ⟩ hH;obtain⟨h,rfl⟩:∃ h',h=Hp.set h' b ⟨rc s a L Co,T⟩:=⟨h,set_self hb⟩;obtain⟨a,rfl⟩:∃ n:Nat,a=n:=⟨a.toNat,by omega⟩;rw[Int.toNat_natCast] at hφ hdg;rw[dZ] at hφ;have hle:=D7 (p:=kY) (s:=s) (i:=a) (by omega);have hy:=jZ (p:=kY) (s:=s) (i:=a) (by omega) hdg;have hsl:=Bl s (i:=a) hle;have hne:sub s a (a+rn kY s a)≠[]:=by intro e;rw[e] at hsl;simp at hsl;omega
  have hst:=Ri _ hne;have htl:=ER (sub s a (a+rn kY s a)) 48;have hnm:nm s a=_:=rfl
  conv at hnm=>rhs;unfold nm
  refine bn Tryz.func77 Pz WA [zJ,AQ,Sr,BN,jy] φ bP bu ⟨[k,l,c,n],[],[x],[],[],[some (b,0)],h.set b ⟨rc s a L Co,T⟩,df⟩ ⟨rfl,rfl,rfl,rfl,rfl,rfl⟩ af ?_ w hH rfl;generalize hN:rn kY s a=N at *;generalize hD:sub s a (a+N)=d at *;have e1:((a:Int)+(N:Int)).toNat=a+N:=by omega
  have e1':((a:Int)+((N:Int)+1)).toNat=a+N+1:=by omega
  have e2:List.drop a (List.take (a+N) s)=d:=hD;have hv:∀ kk most e P (m:Int),nm s a=qc kk most d e->strip d=P->(pv P).2=0->(pv P).1<=most->(e:Int)=a+m->φ (.tuple #[.agg #[.int .u8 kk,.int .i64 l,.int .i64 c,.int .i64 (pv P).1,.string (B x)],.int .i64 0]) (h.set b ⟨[.string (B s),.int .i64 (a+m),.int .i64 L,.int .i64 (Co+m)],T⟩):=by
   intro kk most e P m hn hP h3 h4 he;subst hP;have e':qc kk most d e=(0,kk,(pv (strip d)).1,e):=if_pos ⟨h3,h4⟩;rw[hn,e',if_pos rfl] at hφ;simp only[rc,fM,he] at hφ;rw[show Co+((a:Int)+m) - a=Co+m by omega] at hφ;exact hφ
  have ho:∀ kk most e,nm s a=qc kk most d e->¬ ((pv (strip d)).2=0/\(pv (strip d)).1<=most)->φ (.tuple #[.agg #[.int .u8 0,.int .i64 0,.int .i64 0,.int .i64 0,.string (B [])],.int .i64 14]) (h.set b ⟨[.string (B s),.int .i64 a,.int .i64 L,.int .i64 Co],T⟩):=by
   intro kk most e hn h3;have e':qc kk most d e=(14,0,0,0):=if_neg h3;rw[hn,e',if_neg (by decide)] at hφ;exact hφ
  have h4:nm s a=(4,0,0,0)->φ (.tuple #[.agg #[.int .u8 0,.int .i64 0,.int .i64 0,.int .i64 0,.string (B [])],.int .i64 4]) (h.set b ⟨[.string (B s),.int .i64 a,.int .i64 L,.int .i64 Co],T⟩):=by
   intro hn;rw[hn,if_neg (by decide)] at hφ;exact hφ
  clear hφ;rw[<- ae];unfold Fv
  iterate 90 (first | (simp only[ae];simp[go_sem,rc,zJ,oN,AQ,Sr,BN,jy,hN,e1,e1',e2]) | skip)
  have hP1:Lib.trimLeftB d 48=[]->strip d=[48]:=fun h=>by rw[hst,if_pos h]
  have hP2:¬ Lib.trimLeftB d 48=[]->strip d=Lib.trimLeftB d 48:=fun h=>by rw[hst,if_neg h]
  clear hst hN hD e2 hb hH;by_cases hk:a+N<s.length
  . have hkz:(a:Int)+N<s.length:=by omega
    by_cases h105:bt s (a+N)=105
    . have hyy:=jZ (p:=inB) hk (by rw[h105];exact afV);by_cases hk1:a+N+1<s.length
      . have hkz1:(a:Int)+(N+1)<s.length:=by omega
        cases hin:inB (bt s (a+N+1))
        . rw[xY hk1 hin] at hyy;have hn:nm s a=qc 4 8388607 d (a+N+1):=by rw[hnm,hyy,if_neg (by decide),if_pos ⟨rfl,h105⟩]
          clear h4 hnm;simp[hkz,hkz1,h105];by_cases ht:Lib.trimLeftB d 48=[]
          . have hP:=hP1 ht;by_cases he:(pv [48]).2=0
            . by_cases hm:8388607<(pv [48]).1
              . simp[ht,he,hm]
                (repeat' apply And.intro)<;>first | omega | exact ho _ _ _ hn (by rw[hP];omega)
              . simp[ht,he,hm]
                (repeat' apply And.intro)<;>first | omega | exact hv _ _ _ _ _ hn hP he (by omega) (by omega)
            . simp[ht,he]
              (repeat' apply And.intro)<;>first | omega | exact ho _ _ _ hn (by rw[hP];omega)
          . have hP:=hP2 ht;by_cases he:(pv (Lib.trimLeftB d 48)).2=0
            . by_cases hm:8388607<(pv (Lib.trimLeftB d 48)).1
              . simp[ht,he,hm]
                (repeat' apply And.intro)<;>first | omega | exact ho _ _ _ hn (by rw[hP];omega)
              . simp[ht,he,hm]
                (repeat' apply And.intro)<;>first | omega | exact hv _ _ _ _ _ hn hP he (by omega) (by omega)
            . simp[ht,he]
              (repeat' apply And.intro)<;>first | omega | exact ho _ _ _ hn (by rw[hP];omega)
        . have:=jZ hk1 hin;have hf:=h4 (by rw[hnm,if_neg (by omega),if_neg (by omega)]);simp[hkz,hkz1,h105]
          (repeat' apply And.intro)<;>first | omega | exact hf
      . have hkz1:¬ ((a:Int)+(N+1)<s.length):=by omega
        rw[pq (p:=inB) (s:=s) (i:=a+N+1) (by omega)] at hyy;have hn:nm s a=qc 4 8388607 d (a+N+1):=by rw[hnm,hyy,if_neg (by decide),if_pos ⟨rfl,h105⟩]
        clear h4 hnm;simp[hkz,hkz1,h105];by_cases ht:Lib.trimLeftB d 48=[]
        . have hP:=hP1 ht;by_cases he:(pv [48]).2=0
          . by_cases hm:8388607<(pv [48]).1
            . simp[ht,he,hm]
              (repeat' apply And.intro)<;>first | omega | exact ho _ _ _ hn (by rw[hP];omega)
            . simp[ht,he,hm]
              (repeat' apply And.intro)<;>first | omega | exact hv _ _ _ _ _ hn hP he (by omega) (by omega)
          . simp[ht,he]
            (repeat' apply And.intro)<;>first | omega | exact ho _ _ _ hn (by rw[hP];omega)
        . have hP:=hP2 ht;by_cases he:(pv (Lib.trimLeftB d 48)).2=0
          . by_cases hm:8388607<(pv (Lib.trimLeftB d 48)).1
            . simp[ht,he,hm]
              (repeat' apply And.intro)<;>first | omega | exact ho _ _ _ hn (by rw[hP];omega)
            . simp[ht,he,hm]
              (repeat' apply And.intro)<;>first | omega | exact hv _ _ _ _ _ hn hP he (by omega) (by omega)
          . simp[ht,he]
            (repeat' apply And.intro)<;>first | omega | exact ho _ _ _ hn (by rw[hP];omega)
    . cases hin:inB (bt s (a+N))
      . have hn:nm s a=qc 3 9223372036854775807 d (a+N):=by rw[hnm,if_pos (xY hk hin)]
        clear h4 hnm;simp[hkz,h105];by_cases ht:Lib.trimLeftB d 48=[]
        . have hP:=hP1 ht;by_cases he:(pv [48]).2=0
          . by_cases hm:9223372036854775807<(pv [48]).1
            . simp[ht,he,hm]
              (repeat' apply And.intro)<;>first | omega | exact ho _ _ _ hn (by rw[hP];omega)
            . simp[ht,he,hm]
              (repeat' apply And.intro)<;>first | omega | exact hv _ _ _ _ _ hn hP he (by omega) (by omega)
          . simp[ht,he]
            (repeat' apply And.intro)<;>first | omega | exact ho _ _ _ hn (by rw[hP];omega)
        . have hP:=hP2 ht;by_cases he:(pv (Lib.trimLeftB d 48)).2=0
          . by_cases hm:9223372036854775807<(pv (Lib.trimLeftB d 48)).1
            . simp[ht,he,hm]
              (repeat' apply And.intro)<;>first | omega | exact ho _ _ _ hn (by rw[hP];omega)
            . simp[ht,he,hm]
              (repeat' apply And.intro)<;>first | omega | exact hv _ _ _ _ _ hn hP he (by omega) (by omega)
          . simp[ht,he]
            (repeat' apply And.intro)<;>first | omega | exact ho _ _ _ hn (by rw[hP];omega)
      . have:=jZ hk hin;have hf:=h4 (by rw[hnm,if_neg (by omega),if_neg (fun h=>h105 h.2)]);simp[hkz,h105]
        (repeat' apply And.intro)<;>first | omega | exact hf
  . have hkz:¬ ((a:Int)+N<s.length):=by omega
    have hn:nm s a=qc 3 9223372036854775807 d (a+N):=by rw[hnm,if_pos (pq (by omega))]
    clear h4 hnm;simp[hkz];by_cases ht:Lib.trimLeftB d 48=[]
    . have hP:=hP1 ht;by_cases he:(pv [48]).2=0
      . by_cases hm:9223372036854775807<(pv [48]).1
        . simp[ht,he,hm]
          (repeat' apply And.intro)<;>first | omega | exact ho _ _ _ hn (by rw[hP];omega)
        . simp[ht,he,hm]
          (repeat' apply And.intro)<;>first | omega | exact hv _ _ _ _ _ hn hP he (by omega) (by omega)
      . simp[ht,he]
        (repeat' apply And.intro)<;>first | omega | exact ho _ _ _ hn (by rw[hP];omega)
    . have hP:=hP2 ht;by_cases he:(pv (Lib.trimLeftB d 48)).2=0
      . by_cases hm:9223372036854775807<(pv (Lib.trimLeftB d 48)).1
        . simp[ht,he,hm]
          (repeat' apply And.intro)<;>first | omega | exact ho _ _ _ hn (by rw[hP];omega)
        . simp[ht,he,hm]
          (repeat' apply And.intro)<;>first | omega | exact hv _ _ _ _ _ hn hP he (by omega) (by omega)
      . simp[ht,he]
        (repeat' apply And.intro)<;>first | omega | exact ho _ _ _ hn (by rw[hP];omega)
def YJ:Fm:=(.mk [(.s (.c [38,38])),(.s (.c [124,124])),(.s (.c [61,61])),(.s (.c [33,61])),(.s (.c [60,61])),(.s (.c [62,61])),(.s (.c [43])),(.s (.c [45])),(.s (.c [42])),(.s (.c [47])),(.s (.c [37])),(.s (.c [60])),(.s (.c [62])),(.s (.c [33])),(.s (.c [61])),(.s (.c [40])),(.s (.c [41])),(.s (.c [123])),(.s (.c [125])),(.s (.c [91])),(.s (.c [93])),(.s (.c [44])),(.s (.c [59])),(.s (.c [58])),(.s (.c [46]))] 9 25
 (.ret (.p (.L 0))))
theorem VX:aZ ⟨true,[]⟩ Tryz.prog (fun l=>([]:List bK).getD l ⟨[],[],[]⟩) Tryz.f123=YJ:=by kernel_rfl
theorem aaq:az Tryz.prog .zero Tryz.f123.params.toList=some ([],⟨0,0,0,0,0,0⟩):=by kernel_rfl
def LM:Fm:=(.O (.pt 0 0) 1 [(.s (.x 1))] ⟨0,0,1,0,0,0⟩
 (.C 126 [.S 1,.S 0] (.p (.B 0)) ⟨0,1,0,0,0,0⟩
 (.ret (.p (.B 0)))))
theorem VW:lq ⟨true,[]⟩ Tryz.prog (fun l=>([]:List bK).getD l ⟨[],[],[]⟩) Tryz.f125 [.S 0,.one (.adr (.pt 0 0))] ⟨0,0,1,0,0,1⟩=LM:=by kernel_rfl
def aeG:Fm:=(.loop 0 ⟨[(.c 0),(.c 0)],[],[],[],[],[]⟩
 (.ite (.lt (.x 1) (.cnt (.x 0)))
 (.N (.X (.x 1) (.x 0))
 (.O (.el (.x 0) (.x 1) 1 0) 1 [(.s (.x 0))] ⟨0,0,1,0,0,0⟩
 (.C 125 [.S 0,.P 0] (.p (.B 0)) ⟨0,1,0,0,0,0⟩
 (.ite (.x 0)
 (.ret (.p (.J 1)))
 (.N (.R (.add (.x 1) (.c 1)))
 (.again 0 ⟨0,0,0,0,1,1⟩ ⟨2,0,0,0,1,1⟩ ⟨[(.x 0),(.add (.x 1) (.c 1))],[],[],[],[],[]⟩))))))
 (.ret (.p (.I (.c (-1)))))))
theorem acj:lq ⟨true,[]⟩ Tryz.prog (fun l=>([⟨[4,8],[9,10,5,11,12,13,14,15,16,17,18],[]⟩]:List bK).getD l ⟨[],[],[]⟩) Tryz.f124 [.L 0,.one (.clo 125 [0])] ⟨0,0,0,0,1,1⟩=aeG:=by kernel_rfl
def Tt:Fm:=(.O (.pt 0 0) 1 [(.s (.x 1))] ⟨0,0,1,0,0,0⟩
 (.O (.pt 0 1) 1 [.J 4] ⟨1,0,0,0,0,0⟩
 (.Z 0
 (.Z 0
 (.Z 0
 (.Z 0
 (.N (.and (.le (.c 0) (.x 4)) (.le (.x 4) (.len (.x 1))))
 (.C 123 [] (.p (.L 0)) ⟨0,0,0,0,1,0⟩
 (.new [(.s (.sub (.x 1) (.x 4) (.len (.x 1))))] 9
 (.C 124 [.L 0,(.one (.clo 125 [1]))] (.p (.J 5)) ⟨1,0,0,0,0,0⟩
 (.ite (.lt (.x 5) (.c 0))
 (.ret (.tup [(.agg [(.i .u8 (.c 0)),(.i .i64 (.c 0)),(.i .i64 (.c 0)),(.i .i64 (.c 0)),(.s (.c []))]),(.I (.c 4))]))
 (.O (.el (.x 0) (.x 5) 1 0) 1 [(.s (.x 2))] ⟨0,0,1,0,0,0⟩
 (.N (.X (.x 5) (.x 0))
 (.N (.X (.x 5) (.x 0))
 (.O (.el (.x 0) (.x 5) 1 0) 1 [(.s (.x 3))] ⟨0,0,1,0,0,0⟩
 (.V 114 [.P 0,(.I (.len (.x 3)))]
 (.ret (.tup [(.agg [(.i .u8 (.c 7)),.J 1,.J 2,.J 3,(.s (.x 2))]),(.I (.c 0))]))))))))))))))))))
theorem Y9:aZ ⟨true,[]⟩ Tryz.prog (fun l=>([]:List bK).getD l ⟨[],[],[]⟩) Tryz.f79=Tt:=by kernel_rfl
theorem ac6:az Tryz.prog .zero Tryz.f79.params.toList=some ([.P 0,.K 0 1 2 3 0],⟨4,0,1,0,0,1⟩):=by kernel_rfl
def dQ:List (List UInt8):=[[38,38],[124,124],[61,61],[33,61],[60,61],[62,61],[43],[45],[42],[47],[37],[60],[62],[33],[61],[40],[41],[123],[125],[91],[93],[44],[59],[58],[46]]
def sg (rest:List UInt8):List UInt8:=(dQ.find? fun p=>p.isPrefixOf rest).getD []
def strs (l:List (List UInt8)):List Value:=l.map fun x=>.string (B x)
def Cc (f:List UInt8->Bool):List (List UInt8)->Nat->Int
 | [],_=>-1
 | x::t,k=>if f x=true then k else Cc f t (k+1)
theorem Fj (f:List UInt8->Bool):∀ (ps:List (List UInt8)) (k:Nat),(Cc f ps k=-1/\ps.find? f=none)\/∃ j x,ps[j]? = some x/\Cc f ps k=(k+j:Nat)/\ps.find? f=some x
 | [],k=>.inl ⟨rfl,rfl⟩
 | x::t,k=>by
   by_cases hx:f x=true
   . exact .inr ⟨0,x,rfl,by rw[Cc,if_pos hx];rfl,by rw[List.find?_cons,hx]⟩
   . have hx':f x=false:=by simpa using hx
     rw[Cc,if_neg hx,List.find?_cons,hx'];rcases Fj f t (k+1) with h | ⟨j,y,h1,h2,h3⟩
     . exact .inl h
     . exact .inr ⟨j+1,y,h1,by rw[h2];congr 1;omega,h3⟩
theorem wo {h:Hp} {b:Nat} {ps:List (List UInt8)} {T:TypeId} (hb:h b=some ⟨strs ps,T⟩) {k:Nat} {x:List UInt8} (hx:ps[k]? = some x):hread h (some (b,k)) 1=some [.string (B x)]:=by
 have hlt:=(List.getElem?_eq_some_iff.1 hx).1;have hg:=(List.getElem?_eq_some_iff.1 hx).2;rw[bz hb,if_pos (by simp[strs];omega)];have:(strs ps).drop k=.string (B ps[k])::(strs ps).drop (k+1):=by
  rw[List.drop_eq_getElem_cons (by simp[strs];omega)];simp[strs]
 simp only[this,hg];rfl
def Sj:Ct Tryz.prog where
 f:=123
 spec:=fun args h φ=>args=[]/\∀ b,h b=none->φ (.slice (some ⟨b,0,none⟩) 25 25) (h.set b ⟨strs dQ,9⟩)
 ok:=by
  rintro args h φ w ⟨rfl,hφ⟩ hH;refine bn Tryz.func123 VX aaq [] φ bP bu ⟨[],[],[],[],[],[],h,df⟩ ⟨rfl,rfl,rfl,rfl,rfl,rfl⟩ af ?_ w hH rfl;intro b hb;exact hφ b hb
def zH:Ct Tryz.prog where
 f:=126
 spec:=fun args h φ=>∃ s p,args=[.string (B s),.string (B p)]/\φ (.bool (p.isPrefixOf s)) h
 ok:=by
  rintro args h φ w ⟨s,p,rfl,hφ⟩ hH;refine AY (v:=.bool (p.isPrefixOf s)) ((Tryz.strings_HasPrefix (B s) (B p) w).mono fun e w' ⟨he,hw⟩=>⟨?_,hw.symm⟩) hφ hH;rw[he];simp[B,Lib.hasPrefix]
def Io:Ct Tryz.prog where
 f:=125
 spec:=fun args h φ=>∃ p k rest T,args=[.string (B p),.pointer (some ⟨k,0,none⟩)]/\h k=some ⟨[.string (B rest)],T⟩/\φ (.bool (p.isPrefixOf rest)) h
 ok:=by
  rintro args h φ w ⟨p,k,rest,T,rfl,hk,hφ⟩ hH;refine qI Tryz.func125 VW [zH] φ bP bu ⟨[],[],[p],[],[],[some (k,0)],h,df⟩ ⟨rfl,rfl,rfl,rfl,rfl,rfl⟩ af ?_ w hH rfl;rw[<- ae];unfold LM
  iterate 90 (first | (simp only[ae];simp[go_sem,zH,bz hk,hφ]) | skip)
set_option maxHeartbeats 2000000 in
def afK:Ct Tryz.prog where
 f:=124
 spec:=fun args h φ=>∃ b k ps rest T T',args=[.slice (some ⟨b,0,none⟩) ps.length ps.length,.func (.func 125) #[] #[.pointer (some ⟨k,0,none⟩)]]/\h b=some ⟨strs ps,T⟩/\h k=some ⟨[.string (B rest)],T'⟩/\ps.length<=1000/\
  φ (.int .i64 (Cc (fun p=>p.isPrefixOf rest) ps 0)) h
 ok:=by
  rintro args h φ w ⟨b,k,ps,rest,T,T',rfl,hb,hk,hl,hφ⟩ hH;refine qI Tryz.func124 acj [Io] φ (fun _ C=>∃ j:Nat,C=⟨[0,j],[],[],[],[⟨some (b,0),ps.length,ps.length⟩],[some (k,0)],h,df⟩/\j<=ps.length/\Cc (fun p=>p.isPrefixOf rest) ps 0=Cc (fun p=>p.isPrefixOf rest) (ps.drop j) j) (fun _ C=>(ps.length - C.i.getD 1 0).toNat)
   ⟨[],[],[],[],[⟨some (b,0),ps.length,ps.length⟩],[some (k,0)],h,df⟩ ⟨rfl,rfl,rfl,rfl,rfl,rfl⟩ af ?_ w hH rfl
  refine bI ⟨0,rfl,by omega,rfl⟩ ?_;rintro i bb ss v ll pp hh M ⟨j,hC,h3,h4⟩ hM;cases hC;have hM':M 0=((ps.length:Int) - j).toNat:=hM;rw[h4] at hφ;by_cases hj:j<ps.length
  . have hjz:(j:Int)<ps.length:=by omega
    have hg:=List.getElem?_eq_getElem hj;have hrd:=wo hb hg;rw[List.drop_eq_getElem_cons hj] at h4 hφ;generalize ps[j]=x at *;cases hx:x.isPrefixOf rest
    . rw[Cc,if_neg (by rw[hx];decide)] at h4 hφ;rw[<- ae]
      iterate 90 (first | (simp only[ae];simp[go_sem,Io,hjz,hrd,hk,hx]) | skip)
      (repeat' apply And.intro)<;>first | omega | exact⟨j+1,by omega,by omega,h4⟩
    . rw[Cc,if_pos hx] at hφ;rw[<- ae]
      iterate 90 (first | (simp only[ae];simp[go_sem,Io,hjz,hrd,hk,hx,hφ]) | skip)
  . have hjz:¬ ((j:Int)<ps.length):=by omega
    rw[List.drop_eq_nil_of_le (by omega)] at hφ;rw[<- ae]
    iterate 90 (first | (simp only[ae];simp[go_sem,hjz]) | skip)
    exact hφ
theorem Ci {f:List UInt8->Bool} {x:List UInt8} (h:dQ.find? f=some x):x≠[]/\x.length<=2/\f x=true:=by
 have hm:=List.mem_of_find?_eq_some h;have hall:dQ.all (fun x=>decide (x≠[])&&decide (x.length<=2))=true:=by decide
 have:=List.all_eq_true.1 hall x hm;simp only[Bool.and_eq_true,decide_eq_true_eq] at this;exact⟨this.1,this.2,List.find?_some h⟩
def XZ:Ct Tryz.prog where
 f:=124
 spec:=fun args h φ=>∃ b k,args=[.slice (some ⟨b,0,none⟩) 25 25,.func (.func 125) #[] #[.pointer (some ⟨k,0,none⟩)]]/\∃ rest T T',h b=some ⟨strs dQ,T⟩/\h k=some ⟨[.string (B rest)],T'⟩/\
  φ (.int .i64 (Cc (fun p=>p.isPrefixOf rest) dQ 0)) h
 ok:=by
  rintro args h φ w ⟨b,k,rfl,rest,T,T',hb,hk,hφ⟩ hH;exact afK.ok _ h φ w ⟨b,k,dQ,rest,T,T',rfl,hb,hk,by decide,hφ⟩ hH
set_option maxRecDepth 100000 in
set_option maxHeartbeats 8000000 in
def Pg:Ct Tryz.prog where
 f:=79
 spec:=fun args h φ=>∃ b k l c n x s a L Co,∃ T:Rw,args=[.pointer (some ⟨b,0,none⟩),fM k l c n x]/\h b=some ⟨rc s a L Co,T⟩/\0<=a/\a<=s.length/\s.length<=100000/\0<=Co/\Co<=500000/\
  (if sg (s.drop a.toNat)=[] then φ (.tuple #[fM 0 0 0 0 [],.int .i64 4]) h
   else φ (.tuple #[fM 7 l c n (sg (s.drop a.toNat)),.int .i64 0]) (h.set b ⟨rc s (a+(sg (s.drop a.toNat)).length) L (Co+(sg (s.drop a.toNat)).length),T⟩))
 ok:=by
  rintro args h φ w ⟨b,k,l,c,n,x,s,a,L,Co,T,rfl,hb,h0,h1,h2,c0,c1,hφ⟩ hH;obtain⟨h,rfl⟩:∃ h',h=Hp.set h' b ⟨rc s a L Co,T⟩:=⟨h,set_self hb⟩;obtain⟨a,rfl⟩:∃ n:Nat,a=n:=⟨a.toNat,by omega⟩;rw[Int.toNat_natCast,dZ] at hφ;refine dh (bn Tryz.func79 Y9 ac6 [Sj,XZ,jy] (fun v k=>∃ k',dA k' k/\φ v k') bP bu ⟨[k,l,c,n],[],[x],[],[],[some (b,0)],h.set b ⟨rc s a L Co,T⟩,df⟩ ⟨rfl,rfl,rfl,rfl,rfl,rfl⟩ af ?_ w hH rfl);rw[<- ae];unfold Tt
  iterate 8 (simp only[ae];simp[go_sem,rc,Sj])
  refine⟨by omega,fun b1 hb1=>?_⟩;simp only[ae];simp[go_sem];intro b2 hb2;have n1:b≠b1:=fun e=>by rw[<- e,aA] at hb1;cases hb1
  have n2:b1≠b2:=fun e=>by rw[<- e,aA] at hb2;cases hb2
  have n3:b≠b2:=fun e=>by rw[<- e,aO _ n1,aA] at hb2;cases hb2
  have hs2:List.drop a (List.take s.length s)=List.drop a s:=by rw[List.take_length]
  obtain⟨R,hR⟩:∃ R:List Value,R=[.string (B s),.int .i64 a,.int .i64 L,.int .i64 Co]:=⟨_,rfl⟩;have hle:∀ R',dA (h.set b ⟨R',T⟩) ((((h.set b ⟨R,T⟩).set b1 ⟨strs dQ,9⟩).set b2 ⟨[.string (B (s.drop a))],9⟩).set b ⟨R',T⟩):=fun R' c o hc=>by
   rw[<- hR] at hb1 hb2;simp only[Hp.set] at hc hb1 hb2⊢;by_cases e0:c=b
   . rw[if_pos e0] at hc ⊢;exact hc
   . rw[if_neg e0] at hc⊢;by_cases e2:c=b2
     . subst e2;rw[if_neg n2.symm,if_neg n3.symm,hc] at hb2;cases hb2
     . rw[if_neg e2];by_cases e1:c=b1
       . subst e1;rw[if_neg n1.symm,hc] at hb1;cases hb1
       . rw[if_neg e1,if_neg e0];exact hc
  have kb:(((h.set b ⟨R,T⟩).set b1 ⟨strs dQ,9⟩).set b2 ⟨[.string (B (s.drop a))],9⟩) b=some ⟨R,T⟩:=by rw[aO _ n3,aO _ n1,aA]
  have k1:(((h.set b ⟨R,T⟩).set b1 ⟨strs dQ,9⟩).set b2 ⟨[.string (B (s.drop a))],9⟩) b1=some ⟨strs dQ,9⟩:=by rw[aO _ n2,aA]
  have k2:(((h.set b ⟨R,T⟩).set b1 ⟨strs dQ,9⟩).set b2 ⟨[.string (B (s.drop a))],9⟩) b2=some ⟨[.string (B (s.drop a))],9⟩:=by rw[aA]
  rw[<- hR];generalize ((h.set b ⟨R,T⟩).set b1 ⟨strs dQ,9⟩).set b2 ⟨[.string (B (s.drop a))],9⟩=H at *;subst hR;have hl0:=hle [.string (B s),.int .i64 a,.int .i64 L,.int .i64 Co];rw[<- set_self kb] at hl0;unfold sg at hφ;rcases Fj (fun p=>p.isPrefixOf (s.drop a)) dQ 0 with ⟨f1,f2⟩ | ⟨j,p,f1,f2,f3⟩
  . rw[f2] at hφ
    iterate 90 (first | (simp only[ae];simp[go_sem,XZ,jy,bM.val,k1,k2,f1]) | skip)
    exact⟨_,hl0,hφ⟩
  . obtain⟨p1,p2,_⟩:=Ci f3;rw[f3] at hφ;have hφ':φ (.tuple #[fM 7 l c n p,.int .i64 0]) (h.set b ⟨rc s (a+p.length) L (Co+p.length),T⟩):=by simpa[p1] using hφ
    have hj:j<25:=(List.getElem?_eq_some_iff.1 f1).1;have hrd:=wo k1 f1;have hlp:=hle [.string (B s),.int .i64 (a+p.length),.int .i64 L,.int .i64 (Co+p.length)];rw[Nat.zero_add] at f2;have hjn:¬ ((j:Int)<0):=by omega
    iterate 90 (first | (simp only[ae];simp[go_sem,XZ,jy,rc,bM.val,k1,k2,kb,f2,hrd,hjn]) | skip)
    (repeat' apply And.intro)<;>first | omega | exact⟨_,hlp,hφ'⟩
end
def hx (b:Int):Int:=if 48<=b/\b<=57 then b - 48 else if 97<=b/\b<=102 then b - 87 else if 65<=b/\b<=70 then b - 55 else -1
def ub (n:Int):UInt8:=UInt8.ofNat n.toNat
def rdA:Nat->List UInt8->Nat->List UInt8->Option (List UInt8×Nat)
 | 0,_,_,_=>none
 | n+1,s,i,acc=>
   if s.length<=i\/bt s i<32\/126<bt s i then none
   else if bt s i=34 then some (acc,i+1)
   else if bt s i≠92 then rdA n s (i+1) (acc++[ub (bt s i)])
   else if s.length<=i+1 then none
   else if bt s (i+1)=34\/bt s (i+1)=92 then rdA n s (i+2) (acc++[ub (bt s (i+1))])
   else if bt s (i+1)=110 then rdA n s (i+2) (acc++[10])
   else if bt s (i+1)=116 then rdA n s (i+2) (acc++[9])
   else if bt s (i+1)=120 then
    if i+3<s.length/\0<=hx (bt s (i+2))/\0<=hx (bt s (i+3)) then rdA n s (i+4) (acc++[ub (16*hx (bt s (i+2))+hx (bt s (i+3)))]) else none
   else none
def Bg (s:List UInt8):Option (List UInt8×Nat):=if s.length=0\/bt s 0≠34 then none else rdA s.length s 1 []
theorem ad4 {b:Int} (h:0<=hx b):32<=b/\b<=126:=by
 unfold hx at h;split at h
 . omega
 . split at h
   . omega
   . split at h<;>omega
theorem nN:∀ (n:Nat) {s:List UInt8} {i:Nat} {acc t:List UInt8} {e:Nat},rdA n s i acc=some (t,e)->i<e/\e<=s.length/\∀ j,i<=j->j<e->bt s j≠10
 | 0,s,i,acc,t,e,h=>by cases h
 | n+1,s,i,acc,t,e,h=>by
   have two:∀ {a:Nat} {x:List UInt8},32<=bt s i->i<s.length->(∀ j,i<j->j<a->bt s j≠10)->i<a->rdA n s a x=some (t,e)->i<e/\e<=s.length/\∀ j,i<=j->j<e->bt s j≠10:=by
    intro a x h1 h2 h3 h4 h5;obtain⟨r1,r2,r3⟩:=nN n h5;refine⟨by omega,r2,fun j j1 j2=>?_⟩;rcases Nat.lt_or_ge j a with ha | ha
    . by_cases hj:j=i
      . subst hj;omega
      . exact h3 j (by omega) ha
    . exact r3 j ha j2
   rw[rdA] at h;split at h
   . cases h
   . rename_i h0;have h0':i<s.length/\32<=bt s i:=by omega
     split at h
     . cases h;exact⟨by omega,by omega,fun j j1 j2=>by rw[show j=i by omega];omega⟩
     . split at h
       . exact two h0'.2 h0'.1 (fun j j1 j2=>by omega) (by omega) h
       . split at h
         . cases h
         . split at h
           . exact two h0'.2 h0'.1 (fun j j1 j2=>by rw[show j=i+1 by omega];omega) (by omega) h
           . split at h
             . exact two h0'.2 h0'.1 (fun j j1 j2=>by rw[show j=i+1 by omega];omega) (by omega) h
             . split at h
               . exact two h0'.2 h0'.1 (fun j j1 j2=>by rw[show j=i+1 by omega];omega) (by omega) h
               . split at h
                 . split at h
                   . rename_i hx3;have e2:=ad4 hx3.2.1;have e3:=ad4 hx3.2.2;exact two h0'.2 h0'.1 (fun j j1 j2=>by
                      rcases (by omega:j=i+1\/j=i+2\/j=i+3) with rfl | rfl | rfl<;>omega) (by omega) h
                   . cases h
                 . cases h
theorem oz (s:List UInt8) (e j:Nat) (h:j<e):bt (s.take e) j=bt s j:=by
 unfold bt;simp[List.getD_eq_getElem?_getD,h]
theorem qw:∀ (n:Nat) {s:List UInt8} {i:Nat} {acc t:List UInt8} {e:Nat},rdA n s i acc=some (t,e)->rdA n (s.take e) i acc=some (t,e)
 | 0,s,i,acc,t,e,h=>by cases h
 | n+1,s,i,acc,t,e,h=>by
   obtain⟨a1,a2,_⟩:=nN (n+1) h;have hl:(s.take e).length=e:=by rw[List.length_take];omega
   have b0:bt (s.take e) i=bt s i:=oz s e i a1;rw[rdA] at h⊢;rw[hl,b0];split at h
   . cases h
   . rename_i h0;rw[if_neg (by omega)];split at h
     . rename_i h1;rw[if_pos h1];exact h
     . rename_i h1;rw[if_neg h1];split at h
       . rename_i h2;rw[if_pos h2];exact qw n h
       . rename_i h2;rw[if_neg h2];split at h
         . cases h
         . rename_i h3;split at h
           . rename_i h4;have:=(nN n h).1;rw[if_neg (by omega),oz s e (i+1) (by omega),if_pos h4];exact qw n h
           . rename_i h4;split at h
             . rename_i h5;have:=(nN n h).1;rw[if_neg (by omega),oz s e (i+1) (by omega),if_neg h4,if_pos h5];exact qw n h
             . rename_i h5;split at h
               . rename_i h6;have:=(nN n h).1;rw[if_neg (by omega),oz s e (i+1) (by omega),if_neg h4,if_neg h5,if_pos h6];exact qw n h
               . rename_i h6;split at h
                 . rename_i h7;split at h
                   . rename_i h8;have:=(nN n h).1;rw[if_neg (by omega),oz s e (i+1) (by omega),if_neg h4,if_neg h5,if_neg h6,if_pos h7,oz s e (i+2) (by omega),oz s e (i+3) (by omega),if_pos ⟨by omega,h8.2⟩];exact qw n h
                   . cases h
                 . cases h
theorem qp:∀ (n m:Nat) {s:List UInt8} {i:Nat} {acc:List UInt8},s.length<n+i->s.length<m+i->rdA n s i acc=rdA m s i acc
 | 0,0,s,i,acc,_,_=>rfl
 | 0,m+1,s,i,acc,h,_=>by rw[rdA,rdA,if_pos (.inl (by omega))]
 | n+1,0,s,i,acc,_,h=>by rw[rdA,rdA,if_pos (.inl (by omega))]
 | n+1,m+1,s,i,acc,h1,h2=>by
   rw[rdA,rdA,qp n m (by omega) (by omega),qp n m (i:=i+2) (by omega) (by omega),qp n m (i:=i+2) (acc:=acc++[10]) (by omega) (by omega),qp n m (i:=i+2) (acc:=acc++[9]) (by omega) (by omega),qp n m (i:=i+4) (by omega) (by omega)]
theorem xW {s t:List UInt8} {e:Nat} (h:Bg s=some (t,e)):1<e/\e<=s.length/\∀ j,j<e->bt s j≠10:=by
 unfold Bg at h;split at h
 . cases h
 . obtain⟨r1,r2,r3⟩:=nN _ h;refine⟨r1,r2,fun j hj=>?_⟩;by_cases h0:j=0
   . subst h0;omega
   . exact r3 j (by omega) hj
theorem aaL {s t:List UInt8} {e:Nat} (h:Bg s=some (t,e)):Bg (s.take e)=some (t,e):=by
 obtain⟨r1,r2,_⟩:=xW h;unfold Bg at h⊢;have hl:(s.take e).length=e:=by rw[List.length_take];omega
 split at h
 . cases h
 . rename_i h0;rw[hl,oz s e 0 (by omega),if_neg (by omega),qp e s.length (by omega) (by omega)];exact qw _ h
structure Tk1 where
 f:Int
 k:Int
 x:List UInt8
 n:Int
 e:Nat
def one (s:List UInt8) (i:Nat):Tk1:=
 if jh (bt s i)=1\/jh (bt s i)=2 then ⟨0,kS (bt s i) (sub s i (i+rn inB s i)),sub s i (i+rn inB s i),0,i+rn inB s i⟩
 else if jh (bt s i)=3 then ⟨(nm s i).1,(nm s i).2.1,[],(nm s i).2.2.1,(nm s i).2.2.2⟩
 else if bt s i=34 then (match Bg (s.drop i) with | some (t,n)=>⟨0,5,t,0,i+n⟩ | none=>⟨4,0,[],0,0⟩)
 else if sg (s.drop i)=[] then ⟨4,0,[],0,0⟩ else ⟨0,7,sg (s.drop i),0,i+(sg (s.drop i)).length⟩
structure Tok where
 k:Int
 l:Int
 c:Int
 n:Int
 x:List UInt8
 deriving DecidableEq
def Tok.cs (t:Tok):List Value:=[.int .u8 t.k,.int .i64 t.l,.int .i64 t.c,.int .i64 t.n,.string (B t.x)]
def rX (l:List Tok):List Value:=l.flatMap Tok.cs
theorem Bo (l:List Tok):(rX l).length=l.length*5:=by
 induction l with
 | nil=>rfl
 | cons a l ih=>rw[rX,List.flatMap_cons,List.length_append,<- rX,ih];simp[Tok.cs];omega
theorem UK (l m:List Tok):rX (l++m)=rX l++rX m:=by simp[rX]
theorem UL (t:Tok):rX [t]=t.cs:=by simp[rX]
def EN:Nat->List UInt8->Nat->Int×Int->List Tok->(Int×Int×Int)×List Tok
 | 0,_,_,_,acc=>((0,0,0),acc)
 | m+1,s,i,p,acc=>
   if s.length<=i+jU false s i then ((0,0,0),acc++[⟨8,(mZ p (sub s i (i+jU false s i))).1,(mZ p (sub s i (i+jU false s i))).2,0,[]⟩])
   else if (one s (i+jU false s i)).f=0 then
    EN m s (one s (i+jU false s i)).e (mZ p (sub s i (one s (i+jU false s i)).e))
     (acc++[⟨(one s (i+jU false s i)).k,(mZ p (sub s i (i+jU false s i))).1,(mZ p (sub s i (i+jU false s i))).2,(one s (i+jU false s i)).n,(one s (i+jU false s i)).x⟩])
   else (((one s (i+jU false s i)).f,(mZ p (sub s i (i+jU false s i))).1,(mZ p (sub s i (i+jU false s i))).2),[])
def bZ (s:List UInt8):(Int×Int×Int)×List Tok:=EN (s.length+1) s 0 (1,1) []
theorem aca {f:List UInt8->Bool} {x:List UInt8} (h:dQ.find? f=some x):∀ j,j<x.length->bt x j≠10:=by
 have hm:=List.mem_of_find?_eq_some h;have hall:dQ.all (fun x=>decide (∀ j,j<x.length->bt x j≠10))=true:=by decide +kernel
 simpa using List.all_eq_true.1 hall x hm
theorem zD (a b:List UInt8) {j:Nat} (h:j<a.length):bt (a++b) j=bt a j:=by
 unfold bt;simp[List.getD_eq_getElem?_getD,List.getElem?_append_left h]
theorem agu {s:List UInt8} {i:Nat} (h:sg (s.drop i)≠[]):i+(sg (s.drop i)).length<=s.length/\∀ j,i<=j->j<i+(sg (s.drop i)).length->bt s j≠10:=by
 unfold sg at h⊢;cases hf:dQ.find? (fun p=>p.isPrefixOf (s.drop i)) with
 | none=>rw[hf] at h;exact absurd rfl h
 | some x=>
   have h1:=(Ci hf).2.2;have h2:=aca hf;obtain⟨t,ht⟩:=List.isPrefixOf_iff_prefix.1 h1;have hl:=congrArg List.length ht;rw[List.length_append,List.length_drop] at hl;have hp:=(Ci hf).1;have hp':0<x.length:=List.length_pos_iff.2 hp;simp only[Option.getD_some];refine⟨by omega,fun j j1 j2=>?_⟩;have:=h2 (j - i) (by omega);rw[<- zD x t (by omega),ht,ou,show i+(j - i)=j by omega] at this;exact this
theorem Uc {k most:Int} {d:List UInt8} {e:Nat} (h:(qc k most d e).1=0):(qc k most d e).2.2.2=e:=by
 unfold qc at h⊢;split
 . rfl
 . rename_i h1;rw[if_neg h1] at h;exact absurd h (by decide)
theorem DT {s:List UInt8} {i:Nat} (hi:i<s.length) (h:(one s i).f=0):i<(one s i).e/\(one s i).e<=s.length/\∀ j,i<=j->j<(one s i).e->bt s j≠10:=by
 have flat:∀ {p:Int->Bool},p 10=false->∀ j,i<=j->j<i+rn p s i->bt s j≠10:=fun hp j j1 j2 e=>by
  have:=(aej j1 j2).2;rw[e,hp] at this;cases this
 unfold one at h⊢;split
 . rename_i hk;have hin:inB (bt s i)=true:=by simp only[inB,decide_eq_true_eq];omega
   have:=jZ (p:=inB) hi hin;exact⟨by simp only;omega,D7 (by omega),flat (by decide)⟩
 . rename_i h1;rw[if_neg h1] at h;split
   . rename_i h2;rw[if_pos h2] at h;have hdg:kY (bt s i)=true:=by simp only[kY,decide_eq_true_eq];exact h2
     have hy:=jZ (p:=kY) hi hdg;have hle:=D7 (p:=kY) (s:=s) (i:=i) (by omega);have hfl:=flat (p:=kY) (by decide);simp only at h⊢;unfold nm at h⊢;split
     . rename_i h3;rw[if_pos h3] at h;rw[Uc h];exact⟨by omega,hle,hfl⟩
     . rename_i h3;rw[if_neg h3] at h;split
       . rename_i h4;rw[if_pos h4] at h;rw[Uc h];have hlt:i+rn kY s i<s.length:=by
          by_cases hq:i+rn kY s i<s.length
          . exact hq
          . exact absurd (pq (by omega)) h3
         refine⟨by omega,by omega,fun j j1 j2=>?_⟩;by_cases hj:j=i+rn kY s i
         . subst hj;omega
         . exact hfl j j1 (by omega)
       . rename_i h4;rw[if_neg h4] at h;exact absurd h (by decide)
   . rename_i h2;rw[if_neg h2] at h;split
     . rename_i h3;rw[if_pos h3] at h;cases hq:Bg (s.drop i) with
       | none=>rw[hq] at h;simp at h
       | some r=>
         obtain⟨t,n⟩:=r;obtain⟨r1,r2,r3⟩:=xW hq;rw[List.length_drop] at r2;refine⟨by simp only;omega,by simp only;omega,fun j j1 j2=>?_⟩;have:=r3 (j - i) (by simp only at j2;omega);rw[ou,show i+(j - i)=j by omega] at this;exact this
     . rename_i h3;rw[if_neg h3] at h;split
       . rename_i h4;rw[if_pos h4] at h;exact absurd h (by decide)
       . rename_i h4;obtain⟨r1,r2⟩:=agu h4;have:0<(sg (s.drop i)).length:=List.length_pos_iff.2 h4;exact⟨by simp only;omega,r1,r2⟩
theorem acF {s:List UInt8} {i j:Nat} (p:Int×Int) (hij:i<=j) (hj:j<s.length) (h:(one s j).f=0):
 mZ p (sub s i (one s j).e)=((mZ p (sub s i j)).1,(mZ p (sub s i j)).2+((one s j).e:Int) - j):=by
 obtain⟨h1,h2,h3⟩:=DT hj h;rw[sub_sub s hij (Nat.le_of_lt h1) h2,H6];obtain⟨n,hn⟩:=Nat.exists_eq_add_of_le (Nat.le_of_lt h1);rw[hn] at h2 h3⊢;rw[JU _ s h2 h3];simp;omega
end Go.Proofs.YtllbpdllkkcajaaGreatDoor
