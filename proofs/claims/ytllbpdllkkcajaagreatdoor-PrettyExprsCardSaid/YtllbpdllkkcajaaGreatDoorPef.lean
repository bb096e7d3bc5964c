/- hindcastlaw07: texts joined: LexN, LexS, TreI, TreK, TreL, NumLA, NumL. -/
import Derived.Test.YtllbpdllkkcajaaGreatDoorPee
namespace Go.Proofs.YtllbpdllkkcajaaGreatDoor
open Go.RowKit
section
attribute [local go_sem] aY aX aA ak ax aF aT aJ aW dN gV eQ au says_again bT
def BB:Fm:=(.ite (.lt (.c 65536) (.len (.x 0)))
 (.ret (.tup [(.one (.sl .nil)),(.agg [(.i .i64 (.c 3)),(.i .i64 (.c 0)),(.i .i64 (.c 0))])]))
 (.new [(.s (.x 0)),(.i .i64 (.c 0)),(.i .i64 (.c 1)),(.i .i64 (.c 1))] 104
 (.loop 0 ⟨[(.c 0),(.c 0),(.c 0)],[],[],[],[.nil,.nil],[]⟩
 (.V 72 [.P 0]
 (.O (.pt 0 2) 1 [.J 3] ⟨1,0,0,0,0,0⟩
 (.O (.pt 0 3) 1 [.J 4] ⟨1,0,0,0,0,0⟩
 (.Z 0
 (.Z 0
 (.Z 0
 (.Z 0
 (.Z 0
 (.Z 0
 (.O (.pt 0 1) 1 [.J 5] ⟨1,0,0,0,0,0⟩
 (.ite (.eqI (.x 5) (.len (.x 0)))
 (.mk [(.i .u8 (.c 8)),.J 3,.J 4,(.i .i64 (.c 0)),(.s (.c []))] 73 1
 (.app (.x 1) (.x 2) 5 48 73
 (.ret (.tup [.L 3,(.agg [(.i .i64 (.c 0)),(.i .i64 (.c 0)),(.i .i64 (.c 0))])]))))
 (.Z 0
 (.Z 0
 (.O (.pt 0 1) 1 [.J 6] ⟨1,0,0,0,0,0⟩
 (.N (.and (.le (.c 0) (.x 6)) (.lt (.x 6) (.len (.x 0))))
 (.C 73 [(.one (.i .u8 (.at (.x 0) (.x 6))))] (.p (.B 0)) ⟨0,1,0,0,0,0⟩
 (.call (.not (.x 0)) false 74 [(.one (.i .u8 (.at (.x 0) (.x 6))))] (.p (.B 1)) ⟨0,1,0,0,0,0⟩
 (.ite (.or (.x 0) (.x 1))
 (.C 75 [.P 0,(.agg [(.i .u8 (.c 0)),.J 3,.J 4,(.i .i64 (.c 0)),(.s (.c []))])] (.p (.K 7 8 9 10 1)) ⟨4,0,1,0,0,0⟩
 (.ite (.eqI (.c 0) (.c 0))
 (.mk [.U 7,.J 8,.J 9,.J 10,(.s (.x 1))] 73 1
 (.app (.x 1) (.x 2) 5 48 73
 (.again 0 ⟨0,0,1,0,0,1⟩ ⟨3,0,1,0,2,1⟩ ⟨[(.x 0),(.x 1),(.x 2)],[],[],[],[(.x 0),(.x 3)],[]⟩)))
 (.O (.pt 0 2) 1 [.J 11] ⟨1,0,0,0,0,0⟩
 (.O (.pt 0 3) 1 [.J 12] ⟨1,0,0,0,0,0⟩
 (.Z 0
 (.Z 0
 (.Z 0
 (.Z 0
 (.ret (.tup [(.one (.sl .nil)),(.agg [(.i .i64 (.c 0)),.J 11,.J 12])]))))))))))
 (.C 76 [(.one (.i .u8 (.at (.x 0) (.x 6))))] (.p (.B 2)) ⟨0,1,0,0,0,0⟩
 (.ite (.x 2)
 (.C 77 [.P 0,(.agg [(.i .u8 (.c 0)),.J 3,.J 4,(.i .i64 (.c 0)),(.s (.c []))])] (.tup [.K 7 8 9 10 1,.J 11]) ⟨5,0,1,0,0,0⟩
 (.ite (.eqI (.x 11) (.c 0))
 (.mk [.U 7,.J 8,.J 9,.J 10,(.s (.x 1))] 73 1
 (.app (.x 1) (.x 2) 5 48 73
 (.again 0 ⟨0,0,1,0,0,1⟩ ⟨3,0,1,0,2,1⟩ ⟨[(.x 0),(.x 1),(.x 2)],[],[],[],[(.x 0),(.x 3)],[]⟩)))
 (.O (.pt 0 2) 1 [.J 12] ⟨1,0,0,0,0,0⟩
 (.O (.pt 0 3) 1 [.J 13] ⟨1,0,0,0,0,0⟩
 (.Z 0
 (.Z 0
 (.Z 0
 (.Z 0
 (.ret (.tup [(.one (.sl .nil)),(.agg [.J 11,.J 12,.J 13])]))))))))))
 (.ite (.eqI (.at (.x 0) (.x 6)) (.c 34))
 (.C 78 [.P 0,(.agg [(.i .u8 (.c 0)),.J 3,.J 4,(.i .i64 (.c 0)),(.s (.c []))])] (.tup [.K 7 8 9 10 1,.J 11]) ⟨5,0,1,0,0,0⟩
 (.ite (.eqI (.x 11) (.c 0))
 (.mk [.U 7,.J 8,.J 9,.J 10,(.s (.x 1))] 73 1
 (.app (.x 1) (.x 2) 5 48 73
 (.again 0 ⟨0,0,1,0,0,1⟩ ⟨3,0,1,0,2,1⟩ ⟨[(.x 0),(.x 1),(.x 2)],[],[],[],[(.x 0),(.x 3)],[]⟩)))
 (.O (.pt 0 2) 1 [.J 12] ⟨1,0,0,0,0,0⟩
 (.O (.pt 0 3) 1 [.J 13] ⟨1,0,0,0,0,0⟩
 (.Z 0
 (.Z 0
 (.Z 0
 (.Z 0
 (.ret (.tup [(.one (.sl .nil)),(.agg [.J 11,.J 12,.J 13])]))))))))))
 (.C 79 [.P 0,(.agg [(.i .u8 (.c 0)),.J 3,.J 4,(.i .i64 (.c 0)),(.s (.c []))])] (.tup [.K 7 8 9 10 1,.J 11]) ⟨5,0,1,0,0,0⟩
 (.ite (.eqI (.x 11) (.c 0))
 (.mk [.U 7,.J 8,.J 9,.J 10,(.s (.x 1))] 73 1
 (.app (.x 1) (.x 2) 5 48 73
 (.again 0 ⟨0,0,1,0,0,1⟩ ⟨3,0,1,0,2,1⟩ ⟨[(.x 0),(.x 1),(.x 2)],[],[],[],[(.x 0),(.x 3)],[]⟩)))
 (.O (.pt 0 2) 1 [.J 12] ⟨1,0,0,0,0,0⟩
 (.O (.pt 0 3) 1 [.J 13] ⟨1,0,0,0,0,0⟩
 (.Z 0
 (.Z 0
 (.Z 0
 (.Z 0
 (.ret (.tup [(.one (.sl .nil)),(.agg [.J 11,.J 12,.J 13])]))))))))))))))))))))))))))))))))))
theorem JX:aU ⟨true,[15]⟩ Tryz.prog (fun l=>([⟨[2,5],[16,17,18,19,20,21,22,23,24,25,26,6,27,28,29,30,31,32,33,34,35,36,37,38,39,7,40,41,42,43,44,45,8,53,54,55,56,57,58,52,59,60,61,63,64,62,66,67,68,65,69,70,72,73,71,75,76,77,74,78,79,47,48,49,46,50,51,80,81,82,83,84,85,86,87,88,89,90,91,92,93,94,95],[6,3]⟩]:List bG).getD l ⟨[],[],[]⟩) Tryz.f43=BB:=by kernel_rfl
theorem Rq:az Tryz.prog .zero Tryz.f43.params.toList=some ([.S 0],⟨0,0,1,0,0,0⟩):=by kernel_rfl
def pl (s:List UInt8) (i:Nat):Int×Int:=mr (1,1) (sub s 0 i)
theorem jA {h:Hp} {sl:bM} {xs:List Value} {ty:TypeId} {sz b:Nat} (hs:dC h sl xs ty sz) (hb:∀ z,sl.a=some z->z.1≠b) (o:HO):dC (h.set b o) sl xs ty sz:=by
 rcases hs with hs | ⟨c,o',h1,h2,h3⟩
 . exact .inl hs
 . exact .inr ⟨c,o',h1,by rw[bf _ (hb _ h1)];exact h2,h3⟩
def TK:TypeId:=73
def RD:TypeId:=104
structure ZN (h:Hp) (s:List UInt8) (rb:Nat) (sl:bM) (i m:Nat) (acc:List Tok) (hh:Hp):Prop where
 le:i<=s.length
 fuel:s.length<m+i
 cnt:acc.length<=i
 all:cZ s=Ia m s i (pl s i) acc
 own:dC hh sl (oM acc) TK 5
 n:sl.n=acc.length
 fresh:∀ z,sl.a=some z->z.1≠rb/\h z.1=none
 kept:bY h hh
 nrb:h rb=none
def W9 (h:Hp) (s:List UInt8) (_:Nat) (C:Ctx):Prop:=
 ∃ x0 x1 x2 l0 sl rb i m acc hh,C=⟨[x0,x1,x2],[],[s],[],[l0,sl],[some (rb,0)],Hp.set hh rb ⟨rc s (i:Nat) (pl s i).1 (pl s i).2,RD⟩,cu⟩/\ZN h s rb sl i m acc hh
def YQ (C:Ctx):Nat:=((C.p.getD 0 none).getD (0,0)).1
theorem aaC {h:Hp} {s:List UInt8} {rb:Nat} {sl:bM} {i m:Nat} {acc:List Tok} {hh:Hp} (I:ZN h s rb sl i m acc hh) (R:HO) {b:Nat} (hb:(hh.set rb R) b=none) (cs:List Value):
 dC ((hh.set rb R).set b ⟨cs,TK⟩) sl (oM acc) TK 5:=by
 refine jA (jA I.own (fun z hz=>(I.fresh z hz).1) R) (fun z hz e=>?_) _;rcases I.own with ⟨h1,_⟩ | ⟨c,o',h1,h2,_⟩
 . rw[h1] at hz;cases hz
 . rw[h1] at hz;cases hz;subst e;rw[bf _ (I.fresh _ h1).1] at hb;rw[h2] at hb;cases hb
theorem Pg {h:Hp} {s:List UInt8} {rb:Nat} {sl:bM} {i m:Nat} {acc:List Tok} {hh:Hp} (I:ZN h s rb sl i m acc hh) {R:HO} {b:Nat} (hb:(hh.set rb R) b=none) {cs:List Value} {sl':bM} {k:Hp}
 (h3:∀ x,sl'.a=some x->(∃ z,sl.a=some z/\z.1=x.1)\/((hh.set rb R).set b ⟨cs,TK⟩) x.1=none) (h4:∀ c o,(∀ x,sl.a=some x->x.1≠c)->((hh.set rb R).set b ⟨cs,TK⟩) c=some o->k c=some o):
 k rb=some R/\bY h k/\∀ z,sl'.a=some z->z.1≠rb/\h z.1=none:=by
 have nb:rb≠b:=fun e=>by rw[<- e,ay] at hb;cases hb
 refine⟨h4 rb R (fun x hx=>(I.fresh x hx).1) (by rw[bf _ nb,ay]),fun c o hc=>?_,fun z hz=>?_⟩
 . have n1:c≠rb:=fun e=>by rw[e,I.nrb] at hc;cases hc
   have n2:c≠b:=fun e=>by rw[<- e,bf _ n1,I.kept c o hc] at hb;cases hb
   refine h4 c o (fun x hx e=>?_) (by rw[bf _ n2,bf _ n1];exact I.kept c o hc);have:=(I.fresh x hx).2;rw[e,hc] at this;cases this
 . rcases h3 z hz with ⟨y,hy,e⟩ | hn
   . rw[<- e];exact I.fresh y hy
   . have n2:z.1≠b:=fun e=>by rw[e,ay] at hn;cases hn
     rw[bf _ n2] at hn;have n1:z.1≠rb:=fun e=>by rw[e,ay] at hn;cases hn
     rw[bf _ n1] at hn;refine⟨n1,?_⟩;cases hq:h z.1 with
     | none=>rfl
     | some o=>rw[I.kept _ _ hq] at hn;cases hn
theorem zi {s:List UInt8} {i j:Nat} (h1:i<=j) (h2:j<=s.length):mr (pl s i) (sub s i j)=pl s j:=by
 unfold pl;rw[<- Df,<- sub_sub s (Nat.zero_le i) h1 h2]
theorem Y7 {h:Hp} {s:List UInt8} {rb:Nat} {sl:bM} {i m j:Nat} {acc:List Tok} {hh:Hp} (I:ZN h s rb sl i m acc hh) (hj:j=i+jV false s i) (hjl:j<s.length) (hf:(one s j).f=0) {R:HO} {b:Nat} (hb:(hh.set rb R) b=none) {cs:List Value} {sl':bM} {k:Hp}
 (h1:dC k sl' (oM acc++(Tok.mk (one s j).k (pl s j).1 (pl s j).2 (one s j).n (one s j).x).cs) TK 5) (h2:sl'.n=sl.n+1)
 (h3:∀ x,sl'.a=some x->(∃ z,sl.a=some z/\z.1=x.1)\/((hh.set rb R).set b ⟨cs,TK⟩) x.1=none) (h4:∀ c o,(∀ x,sl.a=some x->x.1≠c)->((hh.set rb R).set b ⟨cs,TK⟩) c=some o->k c=some o):
 k=k.set rb R/\i<(one s j).e/\(one s j).e<=s.length/\
  ZN h s rb sl' (one s j).e (m - 1) (acc++[Tok.mk (one s j).k (pl s j).1 (pl s j).2 (one s j).n (one s j).x]) k:=by
 obtain⟨e1,e2,e3⟩:=Pg I hb h3 h4;obtain⟨o1,o2,o3⟩:=Eh hjl hf;have hm:=I.fuel;have hle:=I.le;obtain⟨m',rfl⟩:∃ m',m=m'+1:=⟨m - 1,by omega⟩;have p1:mr (pl s i) (sub s i (one s j).e)=pl s (one s j).e:=zi (by omega) o2;have p2:mr (pl s i) (sub s i j)=pl s j:=zi (by omega) (by omega);refine⟨set_self e1,by omega,o2,⟨o2,by omega,by have:=I.cnt;simp;omega,?_,by rw[O9,Pe];exact h1,by rw[h2,I.n];simp,e3,e2,I.nrb⟩⟩;rw[I.all,Ia,<- hj,if_neg (by omega),if_pos hf,p1,p2];rfl
theorem ZA {s:List UInt8} {i:Nat} (hi:i<=s.length):0<=(pl s i).1/\(pl s i).1<=1+i/\0<=(pl s i).2/\(pl s i).2<=1+i:=by
 have:=S9 (1,1) (sub s 0 i) (by decide) (by decide);rw[xw s hi] at this;unfold pl;simp at this⊢;omega
theorem aah {s:List UInt8} {j:Nat} (hj:j<s.length) (hf:(one s j).f=0):pl s (one s j).e=((pl s j).1,(pl s j).2+((one s j).e:Int) - j):=by
 unfold pl;exact Ye (1,1) (Nat.zero_le j) hj hf
theorem Xa {E:Env} {C:Ctx} {x y:LE} {f:Fm} {h:Hp} {s:List UInt8} {rb:Nat} {sl:bM} {i m:Nat} {acc:List Tok} {hh:Hp} (I:ZN h s rb sl i m acc hh) (hlen:s.length<=100000) {R:HO} {b:Nat} (hb:(hh.set rb R) b=none) {cs:List Value} (hc:cs.length=5) (ho:eG cs)
 (hx:x.den C=sl) (hy:y.den C=⟨some (b,0),1,1⟩) (hC:C.h=(hh.set rb R).set b ⟨cs,TK⟩)
 (hk:∀ s' k',dC k' s' (oM acc++cs) TK 5->s'.n=sl.n+1->(∀ x,s'.a=some x->(∃ z,sl.a=some z/\z.1=x.1)\/((hh.set rb R).set b ⟨cs,TK⟩) x.1=none)->(∀ c o,(∀ x,sl.a=some x->x.1≠c)->((hh.set rb R).set b ⟨cs,TK⟩) c=some o->k' c=some o)->f.says E ((C.push ⟨[],[],[],[],[s'],[]⟩).heap k')):
 (Fm.app x y 5 48 TK f).says E C:=by
 have h1:=I.n;have h2:=I.cnt;have h3:=I.le;rw[bT,hx,hy,hC];refine⟨oM acc,cs,aaC I R hb cs,.inr ⟨by simp,?_⟩,ho,?_,?_,hk⟩
 . rw[fG,if_pos (by simp[hc])];simp[List.take_of_length_le,hc]
 . show sl.n+1<=maxLen;unfold maxLen;omega
 . show (sl.n+1)*48<=_;omega
theorem Tok.ones (t:Tok):eG t.cs:=by
 intro u hu;simp only[Tok.cs,List.mem_cons,List.not_mem_nil,or_false] at hu;rcases hu with rfl | rfl | rfl | rfl | rfl<;>rfl
theorem um {E:Env} {h:Hp} {s:List UInt8} {rb:Nat} {sl:bM} {i m j:Nat} {acc:List Tok} {hh:Hp} (I:ZN h s rb sl i m acc hh) (hlen:s.length<=100000) (ei:E.inv=W9 h s) (em:E.meas=fun _ C=>(s.length - Dl C.h (YQ C)).toNat) (hj:j=i+jV false s i) (hjl:j<s.length) (hf:(one s j).f=0)
 {l0:bM} {is:List Int} {bs:List Bool} {ss:List (List UInt8)} {M:Nat->Nat} {x0 x1 x2:Int} {cs:List CE} {e L Co:Int} (he:e=(one s j).e) (hL:L=(pl s (one s j).e).1) (hCo:Co=(pl s (one s j).e).2) (hM:M 0=((s.length:Int) - i).toNat)
 (hcs:cs.map (CE.den ⟨x0::x1::x2::is,bs,s::ss,[],[l0,sl],[some (rb,0)],hh.set rb ⟨[.string (B s),.int .i64 e,.int .i64 L,.int .i64 Co],RD⟩,M⟩ bg)=(Tok.mk (one s j).k (pl s j).1 (pl s j).2 (one s j).n (one s j).x).cs):
 (Fm.mk cs TK 1 (.app (.x 1) (.x 2) 5 48 TK (.again 0 ⟨0,0,1,0,0,1⟩ ⟨3,0,1,0,2,1⟩ ⟨[(.x 0),(.x 1),(.x 2)],[],[],[],[(.x 0),(.x 3)],[]⟩))).says E
  ⟨x0::x1::x2::is,bs,s::ss,[],[l0,sl],[some (rb,0)],hh.set rb ⟨[.string (B s),.int .i64 e,.int .i64 L,.int .i64 Co],RD⟩,M⟩:=by
 subst he hL hCo;rw[ui,hcs];intro b hb;refine Xa I hlen (b:=b) hb rfl (Tok.ones _) rfl rfl rfl ?_;intro s' k' h1 h2 h3 h4;obtain⟨q1,q2,q3,q4⟩:=Y7 I hj hjl hf hb h1 h2 h3 h4;rw[says_again,ei,em];refine⟨⟨x0,x1,x2,l0,s',rb,(one s j).e,m - 1,_,k',?_,q4⟩,?_⟩
 . have e:rc s ((one s j).e:Nat) (pl s (one s j).e).1 (pl s (one s j).e).2=[.string (B s),.int .i64 ((one s j).e:Nat),.int .i64 (pl s (one s j).e).1,.int .i64 (pl s (one s j).e).2]:=rfl;rw[e,<- q1];rfl
 . show ((s.length:Int) - Dl k' rb).toNat<M 0;have e:Dl k' rb=((one s j).e:Nat):=by
    rw[q1];exact rY _ _ _ _ _ _ _
   rw[e,hM];omega
def G7:Fm:=(.V 104 [.P 0]
 (.Z 0
 (.Z 0
 (.O (.pt 0 1) 1 [(.sl (.x 0))] ⟨0,0,0,0,1,0⟩
 (.mk [.U 0] 5 1
 (.app (.x 0) (.x 1) 1 1 5
 (.Z 0
 (.Z 0
 (.store (.pt 0 1) [(.sl (.x 2))]
 (.ret (.p (.one (.c .niliface)))))))))))))
theorem QG:aU ⟨true,[]⟩ Tryz.prog (fun l=>([]:List bG).getD l ⟨[],[],[]⟩) Tryz.f93=G7:=by kernel_rfl
theorem V5:az Tryz.prog .zero Tryz.f93.params.toList=some ([.P 0,(.one (.U 0))],⟨1,0,0,0,0,1⟩):=by kernel_rfl
def BT:TypeId:=46
@[simp] theorem abI:(BT=1000003)=False:=eq_false (by decide)
theorem Ew {w:World} {b:Nat} {c0 c1 v:Value} {T:TypeId} (hb:w.heap[b]? = some (.cells #[c0,c1] T (0,0))):(w.setCell ⟨b,0,none⟩ v).heap[b]? = some (.cells #[v,c1] T (0,0)):=by
 simp[World.setCell,Array.getElem?_modify,hb]
theorem qZ {w:World} {b c:Nat} (hc:c≠b) (v:Value):(w.setCell ⟨b,0,none⟩ v).heap[c]? = w.heap[c]?:=by
 simp[World.setCell,Array.getElem?_modify,Ne.symm hc]
set_option maxHeartbeats 1000000 in
set_option maxRecDepth 100000 in
theorem Xx (b:Nat) (w:World) (h0:w.cell? ⟨b,0,none⟩=some (.pointer (some ⟨b,0,none⟩))):
 Calls Tryz.prog 104 #[.pointer (some ⟨b,0,none⟩)] w fun e w'=>e=.returned (.tuple #[])/\w'=w:=by
 obtain⟨j,hj,_⟩:=Option.map_eq_some_iff.1 (show (Tryz.prog.info? BT).map (·.size)=some 2 by kernel_rfl)
 go_enter Tryz.func104,Tryz.ntmps104
 go_wp2
 rw[Lib.run_neq_ptr_same w _ Tryz.underlying43 hj]
 go_wp2
 go_end0
 exact⟨rfl,rfl⟩
set_option maxHeartbeats 1000000 in
set_option maxRecDepth 100000 in
theorem Tq (b:Nat) (w:World) (h0:w.cell? ⟨b,0,none⟩=some (.pointer none)) (hsh:w.shape? b=some (BT,2)) (hfz:w.frozen? ⟨b,0,none⟩=false):
 Calls Tryz.prog 104 #[.pointer (some ⟨b,0,none⟩)] w fun e w'=>e=.returned (.tuple #[])/\w'=w.setCell ⟨b,0,none⟩ (.pointer (some ⟨b,0,none⟩)):=by
 obtain⟨j,hj,hjs⟩:=Option.map_eq_some_iff.1 (show (Tryz.prog.info? BT).map (·.size)=some 2 by kernel_rfl)
 go_enter Tryz.func104,Tryz.ntmps104
 go_wp2
 rw[Lib.run_to_unsafe w ⟨b,0,none⟩ Tryz.underlying43 Tryz.underlying144 hj (by rw[hjs];decide) hsh (Nat.zero_lt_succ 1)];simp only[Result.andThen];rw[Oper.upon_value]
 go_wp2
 rw[run_callFunc_extern Tryz.func137 (by kernel_rfl) (by kernel_rfl) (by kernel_rfl) (e:=Extern.AbiNoEscape.same) (by kernel_rfl)];rw[Lib.run_noEscape];simp only[Result.andThen];rw[Oper.upon_value]
 go_wp2
 rw[Lib.run_from_unsafe w ⟨b,0,none⟩ Tryz.underlying144 Tryz.underlying43 hj hsh (by kernel_rfl)];simp only[Result.andThen];rw[Oper.upon_value]
 go_wp2
 go_end0
 exact⟨rfl,rfl⟩
def bld (b:Nat) (used:Bool) (sl:bM):List Value:=[if used then .pointer (some ⟨b,0,none⟩) else .pointer none,sl.val]
def oV:Ct Tryz.prog where
 f:=104
 spec:=fun args h φ=>∃ b used sl,args=[.pointer (some ⟨b,0,none⟩)]/\h b=some ⟨bld b used sl,BT⟩/\φ (.tuple #[]) (h.set b ⟨bld b true sl,BT⟩)
 ok:=by
  rintro args h φ w ⟨b,used,sl,rfl,hb,hφ⟩ hH;have hw:=(hH b _ hb).rw (show BT≠1000003 by decide);have hlt:=(Array.getElem?_eq_some_iff.1 hw).1;cases used with
  | true=>
    rw[<- set_self hb] at hφ;refine (Xx b w (by rw[Lib.cell_of_heap hw];rfl)).mono ?_;rintro e w' ⟨rfl,rfl⟩;exact⟨_,h,rfl,hφ,hH,Fr.refl _ _ _⟩
  | false=>
    refine (Tq b w (by rw[Lib.cell_of_heap hw];rfl) (by simp[World.shape?,hw,bld]) (Lib.frozen_of_heap hw 0)).mono ?_;rintro e w' ⟨rfl,rfl⟩;refine⟨_,_,rfl,hφ,fun c o hc=>?_,⟨rfl,rfl,rfl,by simp[World.setCell],fun c hc hn=>?_,fun c hc hn=>?_,fun c hc hn=>hn.set (hn.ne hb (show BT≠1000003 by decide))⟩⟩
    . by_cases e:c=b
      . subst e;rw[ay] at hc;cases hc;exact .of (Ew hw)
      . rw[bf _ e] at hc;rw[qZ e];exact hH c o hc
    . exact qZ (hn.ne hb (show BT≠1000003 by decide)) _
    . rw[bf _ (fun e=>by rw[e,hb] at hn;cases hn)];exact hn
def nG (l:List UInt8):List Value:=l.map fun c=>.int .u8 c.toNat
theorem wM (l m:List UInt8):nG (l++m)=nG l++nG m:=by simp[nG]
theorem MC (l:List UInt8):(nG l).length=l.length:=by simp[nG]
structure SL (h:Hp) (b:Nat) (used:Bool) (sl:bM) (l:List UInt8):Prop where
 at_:h b=some ⟨bld b used sl,BT⟩
 own:dC h sl (nG l) 5 1
 n:sl.n=l.length
 ne:∀ z,sl.a=some z->z.1≠b
 fit:sl.a=none->l=[]
 pos:sl.a≠none->l≠[]
theorem SL.lt {h:Hp} {b:Nat} {used:Bool} {sl:bM} {l:List UInt8} (x:SL h b used sl l) {c:Nat} (hc:h c=none):∀ z,sl.a=some z->z.1≠c:=fun z hz e=>by
 rcases x.own with ⟨h1,_⟩ | ⟨d,o,h1,h2,_⟩
 . rw[h1] at hz;cases hz
 . rw[h1] at hz;cases hz;subst e;rw[hc] at h2;cases h2
theorem EI {c:Int} (h0:0<=c) (h1:c<=255):Value.int .u8 ((ub c).toNat:Nat)=.int .u8 c:=by
 unfold ub;rw[UInt8.toNat_ofNat'];congr 1;omega
set_option maxHeartbeats 2000000 in
def jE:Ct Tryz.prog where
 f:=93
 spec:=fun args h φ=>∃ b used sl l c,args=[.pointer (some ⟨b,0,none⟩),.int .u8 c]/\SL h b used sl l/\0<=c/\c<=255/\l.length<=100000000/\
  ∀ sl' k,SL k b true sl' (l++[ub c])->(∀ c o,c≠b->(∀ z,sl.a=some z->z.1≠c)->h c=some o->k c=some o)->(∀ z,sl'.a=some z->(∃ y,sl.a=some y/\y.1=z.1)\/h z.1=none)->φ .nilIface k
 ok:=by
  rintro args h φ w ⟨b,used,sl,l,c,rfl,X,c0,c1,hl,hφ⟩ hH;refine aZ Tryz.func93 QG V5 [oV] φ bJ aV ⟨[c],[],[],[],[],[some (b,0)],h,cu⟩ ⟨rfl,rfl,rfl,rfl,rfl,rfl⟩ af ?_ w hH rfl;generalize hE:(⟨aG _,_,_,_⟩:Env)=E;have s1:E.spec 104=oV.spec:=by rw[<- hE];rfl
  have ep:E.post=φ:=by rw[<- hE]
  clear hE;unfold G7;rw[ax,if_pos (by rfl),s1];refine⟨b,used,sl,rfl,X.at_,?_⟩;simp[go_sem]
  iterate 3 (simp only[ae];simp[go_sem,bld])
  simp only[ae,aW];intro b1 hb1;rw[bT];have hb1':(h.set b ⟨bld b true sl,BT⟩) b1=none:=hb1;have n1:b1≠b:=fun e=>by rw[e,ay] at hb1';cases hb1'
  have hb1h:h b1=none:=by rw[bf _ n1] at hb1';exact hb1'
  have hcs:[Value.int .u8 c]=nG [ub c]:=by simp[nG,EI c0 c1]
  have hn:=X.n;refine⟨nG l,nG [ub c],jA (jA X.own X.ne _) (X.lt hb1h) _,.inr ⟨by simp[go_sem],?_⟩,?_,?_,?_,?_⟩
  . rw[<- hcs];simp[go_sem]
  . rw[<- hcs];intro u hu;simp at hu;subst hu;rfl
  . show sl.n+1<=maxLen;unfold maxLen;omega
  . show (sl.n+1)*1<=_;omega
  intro s' k h1 h2 h3 h4;have h2':s'.n=sl.n+1:=h2;have hsl:(LE.den (⟨[c],[],[],[],[sl],[some (b,0)],h.set b ⟨bld b true sl,BT⟩,cu⟩:Ctx) (.x 0))=sl:=rfl;have kb:k b=some ⟨bld b true sl,BT⟩:=h4 b _ X.ne (by
   show ((h.set b ⟨bld b true sl,BT⟩).set b1 _) b=_;rw[bf _ n1.symm,ay])
  have fb:∀ z,s'.a=some z->z.1≠b/\((∃ y,sl.a=some y/\y.1=z.1)\/h z.1=none):=fun z hz=>by
   rcases h3 z hz with ⟨y,hy,e⟩ | hn
   . exact⟨by rw[<- e];exact X.ne y hy,.inl ⟨y,hy,e⟩⟩
   . have hn':((h.set b ⟨bld b true sl,BT⟩).set b1 ⟨[Value.int .u8 c],5⟩) z.1=none:=hn;have m1:z.1≠b1:=fun e=>by rw[e,ay] at hn';cases hn'
     rw[bf _ m1] at hn';have m2:z.1≠b:=fun e=>by rw[e,ay] at hn';cases hn'
     rw[bf _ m2] at hn';exact⟨m2,.inr hn'⟩
  have hfin:φ .nilIface (k.set b ⟨bld b true s',BT⟩):=by
   refine hφ s' _ ⟨ay _ _ _,jA (by rw[wM];exact h1) (fun z hz=>(fb z hz).1) _,by rw[h2',hn];simp,fun z hz=>(fb z hz).1,fun hz=>?_,fun _=>by simp⟩ (fun d o hd hz ho=>?_) (fun z hz=>(fb z hz).2)
   . exfalso;rcases h1 with ⟨q,_⟩ | ⟨d,o,q,_⟩
     . rw[q] at h2';simp at h2'
     . rw[q] at hz;cases hz
   . rw[bf _ hd];refine h4 d o hz ?_;show ((h.set b ⟨bld b true sl,BT⟩).set b1 _) d=_;rw[bf _ (fun e=>by rw[e,hb1h] at ho;cases ho),bf _ hd];exact ho
  have kk:=set_self kb;rw[kk];rw[<- ae]
  iterate 4 (try simp only[ae];try simp[go_sem,ep,bld])
  exact hfin
set_option maxHeartbeats 2000000 in
set_option maxRecDepth 100000 in
theorem Y5 (b g cap:Nat) (q:Value) (cur:Array Value) (l:List UInt8) (w:World) (hbk:w.heap[b]? = some (.cells #[q,.slice (some ⟨g,0,none⟩) l.length cap] BT (0,0))) (hg:w.heap[g]? = some (.cells cur 5 (0,0))) (h0:l≠[]) (hcap:l.length<=cap) (hcm:cap<=maxLen)
 (hcs:cur.size=cap) (hcur:∀ (j:Nat) (x:UInt8),l[j]? = some x->cur[j]? = some (Value.int .u8 x.toNat)):
 Calls Tryz.prog 27 #[.pointer (some ⟨b,0,none⟩)] w fun e w'=>e=.returned (.string ⟨l.toArray⟩)/\w'=w.drew.freeze ⟨g,0,none⟩ l.length:=by
 have hl0:l.length≠0:=by simpa using h0
 have c1:w.drew.cell? ⟨b,1,none⟩=some (.slice (some ⟨g,0,none⟩) l.length cap):=by
  have:w.drew.heap[b]? = some (.cells #[q,.slice (some ⟨g,0,none⟩) l.length cap] BT (0,0)):=hbk;rw[Lib.cell_of_heap this];rfl
 have hSD:(Builtin.unsafeSliceData_ #[44] 88 #[.slice (some ⟨g,0,none⟩) l.length cap]).run Tryz.prog w.drew=.ok (.pointer (some ⟨g,0,none⟩)) w.drew:=
  Lib.run_unsafeSliceData_row _ _ _ _ _ _ (by omega)
 have hUS:(Builtin.unsafeString_ #[88,3] 9 #[.pointer (some ⟨g,0,none⟩),.int .i64 l.length]).run Tryz.prog w.drew=.ok (.string ⟨l.toArray⟩) (w.drew.freeze ⟨g,0,none⟩ l.length):=by
  refine Lib.run_unsafeString_row w.drew 88 3 9 5 Tryz.underlying88 (by kernel_rfl) g cur.size (by have hg':w.drew.heap[g]? = some (.cells cur 5 (0,0)):=hg;simp[World.shape?,hg']) l h0 (by omega) (by unfold maxLen at hcm;omega) ?_;intro j x hx;rw[addr_add,Nat.zero_add];have hg':w.drew.heap[g]? = some (.cells cur 5 (0,0)):=hg;rw[Lib.cell_of_heap hg'];exact hcur j x hx
 have mixed:Tryz.prog.follows .mixedOrders=true:=by kernel_rfl
 go_enter Tryz.func27,Tryz.ntmps27
 go_wp2
 go_region_o
 all_goals (go_wp2;go_ret;exact⟨rfl,rfl⟩)
set_option maxHeartbeats 2000000 in
set_option maxRecDepth 100000 in
theorem Y4 (b:Nat) (q:Value) (w:World) (hbk:w.heap[b]? = some (.cells #[q,.slice none 0 0] BT (0,0))):
 Calls Tryz.prog 27 #[.pointer (some ⟨b,0,none⟩)] w fun e w'=>e=.returned (.string ⟨#[]⟩)/\w'=w.drew:=by
 have c1:w.drew.cell? ⟨b,1,none⟩=some (.slice none 0 0):=by
  have:w.drew.heap[b]? = some (.cells #[q,.slice none 0 0] BT (0,0)):=hbk;rw[Lib.cell_of_heap this];rfl
 have hSD:(Builtin.unsafeSliceData_ #[44] 88 #[.slice none 0 0]).run Tryz.prog w.drew=.ok (.pointer none) w.drew:=Lib.run_unsafeSliceData_nil _ _ _ _ _;have hUS:(Builtin.unsafeString_ #[88,3] 9 #[.pointer none,.int .i64 0]).run Tryz.prog w.drew=.ok (.string .empty) w.drew:=Lib.run_unsafeString_none w.drew _ _ _ none;have mixed:Tryz.prog.follows .mixedOrders=true:=by kernel_rfl
 go_enter Tryz.func27,Tryz.ntmps27
 go_wp2
 go_region_o
 all_goals (go_wp2;go_ret;exact⟨rfl,rfl⟩)
def Hp.drop (h:Hp) (s:bM):Hp:=match s.a with
 | some z=>h.del z.1
 | none=>h
def sK:Ct Tryz.prog where
 f:=27
 spec:=fun args h φ=>∃ b used sl l,args=[.pointer (some ⟨b,0,none⟩)]/\SL h b used sl l/\φ (.string (B l)) (h.drop sl)
 ok:=by
  rintro args h φ w ⟨b,used,sl,l,rfl,X,hφ⟩ hH;have hw:=(hH b _ X.at_).rw (show BT≠1000003 by decide);rcases X.own with ⟨h1,hx⟩ | ⟨g,o,h1,h2,h3,h4,h5,h6,h7⟩
  . subst h1;have hl:l=[]:=X.fit rfl;subst hl;refine (Y4 b _ w hw).mono ?_;rintro e w' ⟨rfl,rfl⟩;exact⟨_,h,rfl,hφ,fun c o hc=>hH c o hc,⟨rfl,rfl,rfl,Nat.le_refl _,fun _ _ _=>rfl,fun _ _ hn=>hn,fun _ _ hn=>hn⟩⟩
  . have hl:l≠[]:=X.pos (by rw[h1];simp);have hg:=(hH g o h2).rw (by rw[h3];decide);have hn:=X.n;have hcells:nG l=o.cs.take l.length:=by rw[h7,hn,Nat.mul_one]
    obtain⟨a,n,c⟩:=sl;simp only at h1 hn h4 h5 h6;subst h1 hn;refine (Y5 b g c _ o.cs.toArray l w hw (by rw[<- h3];exact hg) hl h5 h6 (by simp[h4]) (fun j x hj=>?_)).mono ?_
    . have hlt:=(List.getElem?_eq_some_iff.1 hj).1;have:(nG l)[j]? = some (Value.int .u8 x.toNat):=by simp[nG,hj]
      rw[hcells,List.getElem?_take,if_pos hlt] at this;simpa using this
    . rintro e w' ⟨rfl,rfl⟩;have hfz:∀ k,k≠g->(w.drew.freeze ⟨g,0,none⟩ l.length).heap[k]? = w.heap[k]?:=fun k hk=>by
       unfold World.freeze;split
       . rfl
       . simp only[Array.getElem?_modify,if_neg hk.symm];rfl
      have hφ':φ (.string (B l)) (h.del g):=hφ;refine⟨_,h.del g,rfl,hφ',fun k o' hk=>?_,⟨?_,?_,?_,?_,fun k _ hk=>?_,fun k _ hk=>?_,fun k _ hk o ho=>hk o (by simp only[Hp.del] at ho;split at ho;cases ho;exact ho)⟩⟩
      . have hkg:k≠g:=fun e=>by rw[e] at hk;simp[Hp.del] at hk
        rw[hfz k hkg];refine hH k o' ?_;simp only[Hp.del,if_neg hkg] at hk;exact hk
      . unfold World.freeze;split<;>rfl
      . unfold World.freeze;split<;>rfl
      . unfold World.freeze;split<;>rfl
      . unfold World.freeze;split
        . exact Nat.le_refl _
        . show w.heap.size<=(w.drew.heap.modify g _).size;rw[Array.size_modify];exact Nat.le_refl _
      . exact hfz k (hk.ne h2 (by rw[h3];decide))
      . simp only[Hp.del];split
        . rfl
        . exact hk
end
section
attribute [local go_sem] aY aX aA ak ax aF aT aJ au says_again
def qN:TypeId:=48
@[simp] theorem abH:(qN=1000003)=False:=eq_false (by decide)
set_option maxHeartbeats 1000000 in
set_option maxRecDepth 100000 in
theorem Vo (b:Nat) (w:World) (h0:w.cell? ⟨b,1,none⟩=some (.pointer (some ⟨b,1,none⟩))):
 Calls Tryz.prog 104 #[.pointer (some ⟨b,1,none⟩)] w fun e w'=>e=.returned (.tuple #[])/\w'=w:=by
 obtain⟨j,hj,_⟩:=Option.map_eq_some_iff.1 (show (Tryz.prog.info? BT).map (·.size)=some 2 by kernel_rfl)
 go_enter Tryz.func104,Tryz.ntmps104
 go_wp2
 rw[Lib.run_neq_ptr_same w _ Tryz.underlying43 hj]
 go_wp2
 go_end0
 exact⟨rfl,rfl⟩
set_option maxHeartbeats 1000000 in
set_option maxRecDepth 100000 in
theorem QU (b:Nat) (w:World) (h0:w.cell? ⟨b,1,none⟩=some (.pointer none)) (hsh:w.shape? b=some (qN,4)) (hfz:w.frozen? ⟨b,1,none⟩=false):
 Calls Tryz.prog 104 #[.pointer (some ⟨b,1,none⟩)] w fun e w'=>e=.returned (.tuple #[])/\w'=w.setCell ⟨b,1,none⟩ (.pointer (some ⟨b,1,none⟩)):=by
 obtain⟨j,hj,hjs⟩:=Option.map_eq_some_iff.1 (show (Tryz.prog.info? BT).map (·.size)=some 2 by kernel_rfl)
 go_enter Tryz.func104,Tryz.ntmps104
 go_wp2
 rw[Lib.run_to_unsafe w ⟨b,1,none⟩ Tryz.underlying43 Tryz.underlying144 hj (by rw[hjs];decide) hsh (show 1<4 by decide)];simp only[Result.andThen];rw[Oper.upon_value]
 go_wp2
 rw[run_callFunc_extern Tryz.func137 (by kernel_rfl) (by kernel_rfl) (by kernel_rfl) (e:=Extern.AbiNoEscape.same) (by kernel_rfl)];rw[Lib.run_noEscape];simp only[Result.andThen];rw[Oper.upon_value]
 go_wp2
 rw[Lib.run_from_unsafe w ⟨b,1,none⟩ Tryz.underlying144 Tryz.underlying43 hj hsh (by kernel_rfl)];simp only[Result.andThen];rw[Oper.upon_value]
 go_wp2
 go_end0
 exact⟨rfl,rfl⟩
def prn (b:Nat) (lsl:bM) (used:Bool) (sl:bM) (inn:Int):List Value:=[lsl.val,if used then .pointer (some ⟨b,1,none⟩) else .pointer none,sl.val,.int .i64 inn]
theorem RG {w:World} {b:Nat} {c0 c1 c2 c3 v:Value} {T:TypeId} (hb:w.heap[b]? = some (.cells #[c0,c1,c2,c3] T (0,0))):(w.setCell ⟨b,1,none⟩ v).heap[b]? = some (.cells #[c0,v,c2,c3] T (0,0)):=by
 simp[World.setCell,Array.getElem?_modify,hb]
theorem jm {w:World} {b c o:Nat} (hc:c≠b) (v:Value):(w.setCell ⟨b,o,none⟩ v).heap[c]? = w.heap[c]?:=by
 simp[World.setCell,Array.getElem?_modify,Ne.symm hc]
def TG:Ct Tryz.prog where
 f:=104
 spec:=fun args h φ=>∃ b lsl used sl inn,args=[.pointer (some ⟨b,1,none⟩)]/\h b=some ⟨prn b lsl used sl inn,qN⟩/\φ (.tuple #[]) (h.set b ⟨prn b lsl true sl inn,qN⟩)
 ok:=by
  rintro args h φ w ⟨b,lsl,used,sl,inn,rfl,hb,hφ⟩ hH;have hw:=(hH b _ hb).rw (show qN≠1000003 by decide);cases used with
  | true=>
    have e:h.set b ⟨prn b lsl true sl inn,qN⟩=h:=by
     funext c;by_cases hc:c=b
     . subst hc;rw[ay,hb]
     . rw[bf _ hc]
    rw[e] at hφ;refine (Vo b w (by rw[Lib.cell_of_heap hw];rfl)).mono ?_;rintro e w' ⟨rfl,rfl⟩;exact⟨_,h,rfl,hφ,hH,Fr.refl _ _ _⟩
  | false=>
    refine (QU b w (by rw[Lib.cell_of_heap hw];rfl) (by simp[World.shape?,hw,prn]) (Lib.frozen_of_heap hw 1)).mono ?_;rintro e w' ⟨rfl,rfl⟩;refine⟨_,_,rfl,hφ,fun c o hc=>?_,⟨rfl,rfl,rfl,by simp[World.setCell],fun c hc hn=>?_,fun c hc hn=>?_,fun c hc hn=>hn.set (hn.ne hb (show qN≠1000003 by decide))⟩⟩
    . by_cases e:c=b
      . subst e;rw[ay] at hc;cases hc;exact .of (RG hw)
      . rw[bf _ e] at hc;rw[jm e];exact hH c o hc
    . exact jm (hn.ne hb (show qN≠1000003 by decide)) _
    . rw[bf _ (fun e=>by rw[e,hb] at hn;cases hn)];exact hn
structure EX (h:Hp) (b:Nat) (lsl:bM) (used:Bool) (sl:bM) (inn:Int) (l:List UInt8):Prop where
 at_:h b=some ⟨prn b lsl used sl inn,qN⟩
 own:dC h sl (nG l) 5 1
 n:sl.n=l.length
 ne:∀ z,sl.a=some z->z.1≠b
 fit:sl.a=none->l=[]
 pos:sl.a≠none->l≠[]
structure Apd (h h':Hp) (w w':World) (s s':bM) (xs:List Value) (bs:ByteArray) (e:TypeId):Prop where
 own:dC h' s' (xs++Lib.strCells bs) e 1
 n:s'.n=s.n+bs.size
 new:∀ x,s'.a=some x->(∃ z,s.a=some z/\z.1=x.1)\/h x.1=none
 keep:∀ b o,(∀ x,s.a=some x->x.1≠b)->h b=some o->h' b=some o
 holds:Holds h' w'
 fr:Fr w.heap.size h h' w w'
 nil:s'.a=none↔s.a=none/\bs.size=0
theorem lX {h:Hp} {w:World} {ops:Array Oper} {rest:List Oper} {o:Oper} {a:Act} {Q:Exit->Act->World->Prop} (hgd:o.guard=none) (sl x:Operand) (t u:TypeId)
 (ho:o.op=.call { callee:=.builtin .append,args:=#[sl,x],argTypes:=#[t,u] })
 (H:Holds h w) (e:TypeId) (i:TypeInfo) (ht:Tryz.prog.underlying t=some (.slice e)) (hu:Tryz.prog.underlying u=some .string) (hi:Tryz.prog.info? e=some i) (hz:i.zero=some (.int .u8 0))
 (hsize:i.size=1) (hby:i.bytes=1) (s:bM) (xs:List Value) (hs:a.eval sl=s.val) (hown:dC h s xs e 1) (bs:ByteArray) (hx:a.eval x=.string bs) (h63:s.n+bs.size<=2000000000000) (hT:e≠1000003)
 (hk:∀ s' h' w',Apd h h' w w' s s' xs bs e->wpList Tryz.prog ops Q rest (a.put o.dst s'.val) w'):wpList Tryz.prog ops Q (o::rest) a w:=by
 refine wpList_plain hgd fun K hK=>?_
 obtain⟨s',h',w',hr,h2,h3,h4,h5,h6,h7,h8⟩:=xI H ht hu hi hz hsize hby hown bs h63 o.type hT;unfold Oper.wp execOp;simp only[ho,resolve,invoke,builtin,Sem.run_bind,Sem.run_pure,Result.andThen_ok,List.map_toArray,List.map_cons,List.map_nil,hs,hx,hr];exact hK _ _ (hk s' h' w' ⟨h2,h3,h4,h5,h6,h7,h8⟩)
theorem zL (s:List UInt8):Lib.strCells (B s)=nG s:=uj s
theorem aao {k:Hp} {w:World} {b:Nat} {lsl s0 s1:bM} {used:Bool} {inn:Int} (H:Holds k w) (hb:k b=some ⟨prn b lsl used s0 inn,qN⟩):Holds (k.set b ⟨prn b lsl used s1 inn,qN⟩) (w.setCell ⟨b,2,none⟩ s1.val)/\Fr w.heap.size k (k.set b ⟨prn b lsl used s1 inn,qN⟩) w (w.setCell ⟨b,2,none⟩ s1.val):=by
 have hw:=(H b _ hb).rw (show qN≠1000003 by decide);refine⟨fun c o hc=>?_,⟨rfl,rfl,rfl,by simp[World.setCell],fun c hc hn=>jm (hn.ne hb (show qN≠1000003 by decide)) _,fun c hc hn=>?_,fun c hc hn=>hn.set (hn.ne hb (show qN≠1000003 by decide))⟩⟩
 . by_cases e:c=b
   . subst e;rw[ay] at hc;cases hc;refine .of ?_;simp[World.setCell,Array.getElem?_modify,hw,prn]
   . rw[bf _ e] at hc;rw[jm e];exact H c o hc
 . rw[bf _ (fun e=>by rw[e,hb] at hn;cases hn)];exact hn
set_option maxHeartbeats 2000000 in
set_option maxRecDepth 100000 in
def FB:Ct Tryz.prog where
 f:=68
 spec:=fun args h φ=>∃ b lsl used sl inn l s,args=[.pointer (some ⟨b,1,none⟩),.string (B s)]/\EX h b lsl used sl inn l/\l.length+s.length<=1000000000000/\
  ∀ sl' k,EX k b lsl true sl' inn (l++s)->(∀ c o,c≠b->(∀ z,sl.a=some z->z.1≠c)->h c=some o->k c=some o)->(∀ z,sl'.a=some z->(∃ y,sl.a=some y/\y.1=z.1)\/h z.1=none)->φ (.tuple #[.int .i64 s.length,.nilIface]) k
 ok:=by
  rintro args h φ w ⟨b,lsl,used,sl,inn,l,s,rfl,X,hl,hφ⟩ hH;obtain⟨i0,hi,hz0,hz1,hz2⟩:=info_parts (P:=Tryz.prog) (e:=5) (z:=.int .u8 0) (size:=1) (bytes:=1) (by kernel_rfl)
  go_enter Tryz.func68,Tryz.ntmps68
  have e1:∀ args w,(callFunc 104 args).run Tryz.prog w=.ok (.enter 104 args) w:=enters_of Tryz.func104 (by kernel_rfl) rfl
  go_wp2_with (go_at_fn 104;refine (TG.ok [.pointer (some ⟨b,1,none⟩)] h (fun v k=>v=.tuple #[]/\k=h.set b ⟨prn b lsl true sl inn,qN⟩) w ⟨b,lsl,used,sl,inn,rfl,X.at_,rfl,rfl⟩ hH).mono ?_)
  rintro e w1 ⟨v,k,rfl,⟨rfl,rfl⟩,hH1,hF1⟩;have hown1:dC (h.set b ⟨prn b lsl true sl inn,qN⟩) sl (nG l) 5 1:=by
   rcases X.own with h0 | ⟨g,o,h1,h2,h3⟩
   . exact .inl h0
   . exact .inr ⟨g,o,h1,by rw[bf _ (X.ne _ h1)];exact h2,h3⟩
  have hb1:(h.set b ⟨prn b lsl true sl inn,qN⟩) b=some ⟨prn b lsl true sl inn,qN⟩:=ay _ _ _;have c2:w1.cell? ⟨b,2,none⟩=some sl.val:=by rw[Lib.cell_of_heap ((hH1 _ _ hb1).rw (show qN≠1000003 by decide))];rfl
  go_wp2_with (at_builtin;go_must (refine lX rfl _ _ 44 9 rfl hH1 5 i0 Tryz.underlying44 Tryz.underlying9 hi hz0 hz1 hz2 sl _ rfl hown1 (B s) rfl ?c3 (by decide) ?_))
  case c3=>rw[dW,X.n];omega
  rintro s' h' w2 ⟨g1,g2,g3,g4,hH2,hF2,g5⟩;have hb2:h' b=some ⟨prn b lsl true sl inn,qN⟩:=g4 b _ X.ne hb1;have d2:w2.cell? ⟨b,2,none⟩=some sl.val:=by rw[Lib.cell_of_heap ((hH2 _ _ hb2).rw (show qN≠1000003 by decide))];rfl
  have f2:w2.frozen? ⟨b,2,none⟩=false:=Lib.frozen_of_heap ((hH2 _ _ hb2).rw (show qN≠1000003 by decide)) 2;obtain⟨hH3,hF3⟩:=aao (s1:=s') hH2 hb2;rw[zL,<- show nG (l++s)=nG l++nG s by simp[nG]] at g1;rw[dW] at g2 g5;have hne':∀ z,s'.a=some z->z.1≠b:=fun z hz=>by
   rcases g3 z hz with ⟨y,hy,e⟩ | hn
   . rw[<- e];exact X.ne y hy
   . intro e;rw[e,hb1] at hn;cases hn
  have hsn:sl.n=l.length:=X.n;have hP:EX (h'.set b ⟨prn b lsl true s' inn,qN⟩) b lsl true s' inn (l++s):=by
   refine⟨ay _ _ _,?_,by rw[g2,hsn];simp,hne',fun ha=>?_,fun ha=>?_⟩
   . rcases g1 with h0 | ⟨g,o,h1,h2,h3⟩
     . exact .inl h0
     . exact .inr ⟨g,o,h1,by rw[bf _ (hne' _ h1)];exact h2,h3⟩
   . obtain⟨h0,h1⟩:=g5.1 ha;rw[X.fit h0,List.eq_nil_of_length_eq_zero h1];rfl
   . intro e;obtain⟨el,es⟩:=List.append_eq_nil_iff.1 e;refine ha (g5.2 ⟨?_,by rw[es];rfl⟩);cases hc:sl.a with
     | none=>rfl
     | some q=>exact absurd el (X.pos (by rw[hc];simp))
  have hφ':=hφ s' _ hP (fun c o hc hz ho=>by
   rw[bf _ hc];exact g4 c o hz (by rw[bf _ hc];exact ho)) (fun z hz=>by
   rcases g3 z hz with hy | hn
   . exact .inl hy
   . refine .inr ?_;rw[bf _ (hne' z hz)] at hn;exact hn)
  have hFr:=(hF1.trans hF2 hF1.size).trans hF3 (Nat.le_trans hF1.size hF2.size);obtain⟨sa,sn,sc⟩:=s';rw[hsn] at g2;have g2':sn=l.length+s.length:=g2;subst g2';clear g1 g2 g3 g4 g5;simp only[bM.val] at hFr hH3 hφ'⊢
  go_wp2
  go_ret2
  refine⟨_,rfl,_,?_,hH3,hFr⟩;simpa[dW] using hφ'
def NT:Fm:=(.loop 0 ⟨[(.c 0)],[],[],[],[],[]⟩
 (.ite (.lt (.x 0) (.cnt (.x 0)))
 (.N (.X (.x 0) (.x 0))
 (.O (.el (.x 0) (.x 0) 1 0) 1 [(.s (.x 0))] ⟨0,0,1,0,0,0⟩
 (.Z 0
 (.Z 0
 (.C 68 [(.one (.adr (.pt 0 1))),.S 0] (.tup [.J 1,(.one (.v 0))]) ⟨1,0,0,1,0,0⟩
 (.N (.R (.add (.x 0) (.c 1)))
 (.again 0 ⟨0,0,0,0,1,1⟩ ⟨1,0,0,0,1,1⟩ ⟨[(.add (.x 0) (.c 1))],[],[],[],[],[]⟩)))))))
 .E))
theorem UT:aU ⟨true,[]⟩ Tryz.prog (fun l=>([⟨[8],[9,10,11,5,12,13,14,15,16,17],[]⟩]:List bG).getD l ⟨[],[],[]⟩) Tryz.f41=NT:=by kernel_rfl
theorem YL:az Tryz.prog .zero Tryz.f41.params.toList=some ([.P 0,.L 0],⟨0,0,0,0,1,1⟩):=by kernel_rfl
structure wF (h k:Hp) (b:Nat) (sl sl':bM):Prop where
 keep:∀ c o,c≠b->(∀ z,sl.a=some z->z.1≠c)->h c=some o->k c=some o
 new:∀ z,sl'.a=some z->(∃ y,sl.a=some y/\y.1=z.1)\/h z.1=none
theorem wF.refl (h:Hp) (b:Nat) (sl:bM):wF h h b sl sl:=⟨fun _ _ _ _ hc=>hc,fun z hz=>.inl ⟨z,hz,rfl⟩⟩
theorem wF.trans {h k m:Hp} {b:Nat} {s0 s1 s2:bM} (A:wF h k b s0 s1) (C:wF k m b s1 s2) (hb:k b≠none):wF h m b s0 s2:=by
 refine⟨fun c o hc hs ho=>C.keep c o hc (fun z hz e=>?_) (A.keep c o hc hs ho),fun z hz=>?_⟩
 . rcases A.new z hz with ⟨y,hy,e2⟩ | hn
   . exact hs y hy (e2.trans e)
   . rw[e,ho] at hn;cases hn
 . rcases C.new z hz with ⟨y,hy,e⟩ | hn
   . rcases A.new y hy with hl | hr
     . obtain⟨x,hx,e2⟩:=hl;exact .inl ⟨x,hx,e2.trans e⟩
     . exact .inr (by rw[<- e];exact hr)
   . by_cases hs:∃ y,s0.a=some y/\y.1=z.1
     . exact .inl hs
     . refine .inr ?_;cases ho:h z.1 with
       | none=>rfl
       | some o=>
         have hzb:z.1≠b:=fun e=>by rw[e] at hn;exact absurd hn hb
         rw[A.keep z.1 o hzb (fun y hy e=>hs ⟨y,hy,e⟩) ho] at hn;cases hn
theorem wF.le {h h1 k:Hp} {b:Nat} {sl sl':bM} (hl:bY h h1) (A:wF h1 k b sl sl'):wF h k b sl sl':=
 ⟨fun c o hc hs ho=>A.keep c o hc hs (hl c o ho),fun z hz=>by
  rcases A.new z hz with h0 | hn
  . exact .inl h0
  . refine .inr ?_;cases ho:h z.1 with
    | none=>rfl
    | some o=>rw[hl _ _ ho] at hn;cases hn⟩
theorem EX.le {h k:Hp} {b:Nat} {lsl sl:bM} {used:Bool} {inn:Int} {l:List UInt8} (X:EX h b lsl used sl inn l) (hl:bY h k):EX k b lsl used sl inn l:=
 ⟨hl _ _ X.at_,uM X.own hl,X.n,X.ne,X.fit,X.pos⟩
theorem EX.nn {h:Hp} {b:Nat} {lsl sl:bM} {used:Bool} {inn:Int} {l:List UInt8} (X:EX h b lsl used sl inn l):h b≠none:=by rw[X.at_];simp
theorem EX.blk {h:Hp} {b:Nat} {lsl sl:bM} {used:Bool} {inn:Int} {l:List UInt8} (X:EX h b lsl used sl inn l) {z:Nat×Nat} (hz:sl.a=some z):∃ o,h z.1=some o/\o.ty=5:=by
 rcases X.own with ⟨h1,_⟩ | ⟨d,o,h1,h2,h3,_⟩
 . rw[h1] at hz;cases hz
 . rw[h1] at hz;cases hz;exact⟨o,h2,h3⟩
structure zV (h:Hp) (b:Nat) (lsl:bM) (l:List Ng) (used:Bool) (sl:bM) (inn:Int) (acc:List UInt8):Prop where
 prn:EX h b lsl used sl inn acc
 row:NG h lsl l
 ne:l≠[]
 nb:∀ z,lsl.a=some z->z.1≠b
 ns:∀ z y,lsl.a=some z->sl.a=some y->z.1≠y.1
theorem zV.le {h k:Hp} {b:Nat} {lsl sl:bM} {l:List Ng} {used:Bool} {inn:Int} {acc:List UInt8} (X:zV h b lsl l used sl inn acc) (hl:bY h k):zV k b lsl l used sl inn acc:=
 ⟨X.prn.le hl,X.row.le hl,X.ne,X.nb,X.ns⟩
theorem zV.abE {h:Hp} {b:Nat} {lsl sl:bM} {l:List Ng} {used:Bool} {inn:Int} {acc:List UInt8} (X:zV h b lsl l used sl inn acc):∃ z o,lsl.a=some z/\h z.1=some o:=by
 have hn:=NG.n X.row;have hp:0<l.length:=List.length_pos_iff.2 X.ne;obtain⟨c,o,ha⟩:=Rows.nn X.row (j:=0) (by omega);have hr:=NG.node X.row hp ha;unfold hread at hr;simp only at hr;split at hr
 . rename_i x hx;exact⟨(c,o),x,ha,hx⟩
 . cases hr
theorem zV.go {h k:Hp} {b:Nat} {lsl sl sl':bM} {l:List Ng} {used used':Bool} {inn inn':Int} {acc acc':List UInt8} (X:zV h b lsl l used sl inn acc) (Y:EX k b lsl used' sl' inn' acc') (G:wF h k b sl sl'):zV k b lsl l used' sl' inn' acc':=by
 obtain⟨z,o,hz,ho⟩:=X.abE;have hk:=G.keep z.1 o (X.nb z hz) (fun y hy e=>X.ns z y hz hy e.symm) ho;refine⟨Y,⟨X.row.1,?_⟩,X.ne,X.nb,fun z' y hz' hy=>?_⟩
 . rcases X.row.2 with h0 | hr
   . exact .inl h0
   . refine .inr ?_;rw[hz] at hr⊢;unfold hread at hr⊢;simp only at hr⊢;rw[ho] at hr;rw[hk];exact hr
 . rw[hz] at hz';cases hz';rcases G.new y hy with ⟨x,hx,e⟩ | hn
   . rw[<- e];exact X.ns z x hz hx
   . intro e;rw[<- e,ho] at hn;cases hn
def scs (ss:List (List UInt8)):List Value:=ss.map fun s=>.string (B s)
theorem OW (ss:List (List UInt8)):(scs ss).length=ss.length:=by simp[scs]
def Wj (h:Hp) (b bk:Nat) (lsl:bM) (sl:bM) (inn:Int) (acc:List UInt8) (ss:List (List UInt8)) (T:TypeId) (_:Nat) (C:Ctx):Prop:=
 ∃ (j:Nat) (used':Bool) (sl':bM) (k:Hp),C=⟨[j],[],[],[],[⟨some (bk,0),ss.length,ss.length⟩],[some (b,0)],k,cu⟩/\j<=ss.length/\EX k b lsl used' sl' inn (acc++(ss.take j).flatten)/\wF h k b sl sl'/\k bk=some ⟨scs ss,T⟩/\(∀ z,sl'.a=some z->z.1≠bk)
set_option maxHeartbeats 2000000 in
def nK:Ct Tryz.prog where
 f:=41
 spec:=fun args h φ=>∃ b bk lsl used sl inn acc ss T,args=[.pointer (some ⟨b,0,none⟩),(bM.mk (some (bk,0)) ss.length ss.length).val]/\h bk=some ⟨scs ss,T⟩/\bk≠b/\(∀ z,sl.a=some z->z.1≠bk)/\EX h b lsl used sl inn acc/\acc.length+ss.flatten.length<=1000000000000/\ss.length<=1000/\
  ∀ used' sl' k,EX k b lsl used' sl' inn (acc++ss.flatten)->wF h k b sl sl'->φ (.tuple #[]) k
 ok:=by
  rintro args h φ w ⟨b,bk,lsl,used,sl,inn,acc,ss,T,rfl,hbk,hne,hsk,X,hl,hsl,hφ⟩ hH;refine aZ Tryz.func41 UT YL [FB] φ (Wj h b bk lsl sl inn acc ss T) (fun _ C=>((ss.length:Int) - C.i.getD 0 0).toNat) ⟨[],[],[],[],[⟨some (bk,0),ss.length,ss.length⟩],[some (b,0)],h,cu⟩ ⟨rfl,rfl,rfl,rfl,rfl,rfl⟩ af ?_ w hH rfl;generalize hE:(⟨aG _,_,_,_⟩:Env)=E;have sa1:E.spec 68=(FB).spec:=by rw[<- hE];rfl
  have ep:E.post=φ:=by rw[<- hE]
  have ei:E.inv=(Wj h b bk lsl sl inn acc ss T):=by rw[<- hE]
  have em:E.meas=(fun _ C=>((ss.length:Int) - C.i.getD 0 0).toNat):=by rw[<- hE]
  clear hE;unfold NT;refine bH ?_ ?_
  . rw[ei];exact⟨0,used,sl,h,rfl,by omega,by simpa using X,wF.refl _ _ _,hbk,hsk⟩
  rw[ei,em];rintro i bb s v ll pp hh M ⟨j,used',sl',k,hC,hj,X',G,hbk',hsk'⟩ hM;cases hC;have hM':M 0=((ss.length:Int) - j).toNat:=hM;by_cases hj2:j<ss.length
  . have hz:(j:Int)<ss.length:=by omega
    have hrd:hread hh (some (bk,0+j*1+0)) 1=some [Value.string (B ss[j])]:=by
     rw[bI hbk'];simp only[Nat.zero_add,Nat.mul_one,Nat.add_zero,OW];rw[if_pos (by omega),List.drop_eq_getElem_cons (by rw[OW];exact hj2)];simp[scs]
    rw[ak,if_pos (by simpa[go_sem] using hz),ae,aA];refine⟨by simp[go_sem];omega,?_⟩;refine rL ⟨[],[],[ss[j]],[],[],[]⟩ rfl af (by simpa[go_sem] using hrd) ?_;rw[ag];refine⟨by simp[go_sem],?_⟩;rw[ag];refine⟨by simp[go_sem],?_⟩;have hfl:(ss.take (j+1)).flatten=(ss.take j).flatten++ss[j]:=by rw[List.take_succ_eq_append_getElem hj2,List.flatten_append];simp only[List.flatten_cons,List.flatten_nil,List.append_nil]
    have hle:(ss.take (j+1)).flatten.length<=ss.flatten.length:=by
     have:ss.flatten=(ss.take (j+1)).flatten++(ss.drop (j+1)).flatten:=by rw[<- List.flatten_append,List.take_append_drop]
     rw[this,List.length_append];omega
    rw[ai,sa1];refine⟨b,lsl,used',sl',inn,acc++(ss.take j).flatten,ss[j],rfl,X',?_,?_⟩
    . rw[hfl] at hle;simp only[List.length_append] at hle⊢;omega
    intro sl2 k2 X2 g1 g2;have G2:wF hh k2 b sl' sl2:=⟨g1,g2⟩;refine⟨fun h=>(by cases h),(bn _ _).2 ⟨⟨[(ss[j].length:Int)],[],[],[.nilIface],[],[]⟩,rfl,by intro u hu;simp at hu;subst hu;rfl,rfl,?_⟩⟩;rw[ag];refine⟨by simp[go_sem];omega,?_⟩;rw[ae,says_again,ei,em];refine⟨⟨j+1,true,sl2,k2,rfl,by omega,by rw[hfl,<- List.append_assoc];exact X2,G.trans G2 X'.nn,G2.keep bk _ hne hsk' hbk',fun z hz'=>?_⟩,?_⟩
    . rcases G2.new z hz' with ⟨y,hy,e⟩ | hn
      . rw[<- e];exact hsk' y hy
      . intro e;rw[e,hbk'] at hn;cases hn
    . show (((ss.length:Int) - ((j:Int)+1)).toNat)<M 0;omega
  . have hz:¬ ((j:Int)<ss.length):=by omega
    rw[ak,if_neg (by simpa[go_sem] using hz),ae,au,ep];have:ss.take j=ss:=List.take_of_length_le (by omega);rw[this] at X';exact hφ used' sl' hh X' G
theorem dm {h:Hp} {b bb:Nat} {lsl sl:bM} {l:List Ng} {used:Bool} {inn:Int} {acc:List UInt8} {ss:List (List UInt8)} {T:TypeId} {φ:Value->Hp->Prop} (X:zV h b lsl l used sl inn acc) (hbb:h bb=none) (hl:acc.length+ss.flatten.length<=1000000000000) (hn:ss.length<=1000)
 (hφ:∀ used' sl' k,zV k b lsl l used' sl' inn (acc++ss.flatten)->wF h k b sl sl'->φ (.tuple #[]) k):nK.spec [.pointer (some ⟨b,0,none⟩),(bM.mk (some (bb,0)) ss.length ss.length).val] (h.set bb ⟨scs ss,T⟩) φ:=by
 have hle:bY h (h.set bb ⟨scs ss,T⟩):=fun c o hc=>by rw[bf _ (fun e=>by rw[e,hbb] at hc;cases hc)];exact hc
 refine⟨b,bb,lsl,used,sl,inn,acc,ss,T,rfl,ay _ _ _,fun e=>?_,fun z hz e=>?_,X.prn.le hle,hl,hn,fun used' sl' k Y G=>?_⟩
 . rw[e,X.prn.at_] at hbb;cases hbb
 . obtain⟨o,ho,_⟩:=X.prn.blk hz;rw[e,hbb] at ho;cases ho
 . have G':=G.le hle;exact hφ used' sl' k (X.go Y G') G'
set_option maxHeartbeats 2000000 in
set_option maxRecDepth 100000 in
theorem Wh (b g cap:Nat) (c0 q c3:Value) (cur:Array Value) (l:List UInt8) (w:World) (hbk:w.heap[b]? = some (.cells #[c0,q,.slice (some ⟨g,0,none⟩) l.length cap,c3] qN (0,0))) (hg:w.heap[g]? = some (.cells cur 5 (0,0))) (h0:l≠[]) (hcap:l.length<=cap) (hcm:cap<=maxLen)
 (hcs:cur.size=cap) (hcur:∀ (j:Nat) (x:UInt8),l[j]? = some x->cur[j]? = some (Value.int .u8 x.toNat)):
 Calls Tryz.prog 27 #[.pointer (some ⟨b,1,none⟩)] w fun e w'=>e=.returned (.string ⟨l.toArray⟩)/\w'=w.drew.freeze ⟨g,0,none⟩ l.length:=by
 have hl0:l.length≠0:=by simpa using h0
 have c1:w.drew.cell? ⟨b,2,none⟩=some (.slice (some ⟨g,0,none⟩) l.length cap):=by
  have:w.drew.heap[b]? = some (.cells #[c0,q,.slice (some ⟨g,0,none⟩) l.length cap,c3] qN (0,0)):=hbk;rw[Lib.cell_of_heap this];rfl
 have hSD:(Builtin.unsafeSliceData_ #[44] 88 #[.slice (some ⟨g,0,none⟩) l.length cap]).run Tryz.prog w.drew=.ok (.pointer (some ⟨g,0,none⟩)) w.drew:=
  Lib.run_unsafeSliceData_row _ _ _ _ _ _ (by omega)
 have hUS:(Builtin.unsafeString_ #[88,3] 9 #[.pointer (some ⟨g,0,none⟩),.int .i64 l.length]).run Tryz.prog w.drew=.ok (.string ⟨l.toArray⟩) (w.drew.freeze ⟨g,0,none⟩ l.length):=by
  refine Lib.run_unsafeString_row w.drew 88 3 9 5 Tryz.underlying88 (by kernel_rfl) g cur.size (by have hg':w.drew.heap[g]? = some (.cells cur 5 (0,0)):=hg;simp[World.shape?,hg']) l h0 (by omega) (by unfold maxLen at hcm;omega) ?_;intro j x hx;rw[addr_add,Nat.zero_add];have hg':w.drew.heap[g]? = some (.cells cur 5 (0,0)):=hg;rw[Lib.cell_of_heap hg'];exact hcur j x hx
 have mixed:Tryz.prog.follows .mixedOrders=true:=by kernel_rfl
 go_enter Tryz.func27,Tryz.ntmps27
 go_wp2
 go_region_o
 all_goals (go_wp2;go_ret;exact⟨rfl,rfl⟩)
set_option maxHeartbeats 2000000 in
set_option maxRecDepth 100000 in
theorem We (b:Nat) (c0 q c3:Value) (w:World) (hbk:w.heap[b]? = some (.cells #[c0,q,.slice none 0 0,c3] qN (0,0))):
 Calls Tryz.prog 27 #[.pointer (some ⟨b,1,none⟩)] w fun e w'=>e=.returned (.string ⟨#[]⟩)/\w'=w.drew:=by
 have c1:w.drew.cell? ⟨b,2,none⟩=some (.slice none 0 0):=by
  have:w.drew.heap[b]? = some (.cells #[c0,q,.slice none 0 0,c3] qN (0,0)):=hbk;rw[Lib.cell_of_heap this];rfl
 have hSD:(Builtin.unsafeSliceData_ #[44] 88 #[.slice none 0 0]).run Tryz.prog w.drew=.ok (.pointer none) w.drew:=Lib.run_unsafeSliceData_nil _ _ _ _ _;have hUS:(Builtin.unsafeString_ #[88,3] 9 #[.pointer none,.int .i64 0]).run Tryz.prog w.drew=.ok (.string .empty) w.drew:=Lib.run_unsafeString_none w.drew _ _ _ none;have mixed:Tryz.prog.follows .mixedOrders=true:=by kernel_rfl
 go_enter Tryz.func27,Tryz.ntmps27
 go_wp2
 go_region_o
 all_goals (go_wp2;go_ret;exact⟨rfl,rfl⟩)
def Az:Ct Tryz.prog where
 f:=27
 spec:=fun args h φ=>∃ b lsl used sl inn l,args=[.pointer (some ⟨b,1,none⟩)]/\EX h b lsl used sl inn l/\φ (.string (B l)) (h.drop sl)
 ok:=by
  rintro args h φ w ⟨b,lsl,used,sl,inn,l,rfl,X,hφ⟩ hH;have hw:=(hH b _ X.at_).rw (show qN≠1000003 by decide);rcases X.own with ⟨h1,hx⟩ | ⟨g,o,h1,h2,h3,h4,h5,h6,h7⟩
  . subst h1;have hl:l=[]:=X.fit rfl;subst hl;refine (We b _ _ _ w hw).mono ?_;rintro e w' ⟨rfl,rfl⟩;exact⟨_,h,rfl,hφ,fun c o hc=>hH c o hc,⟨rfl,rfl,rfl,Nat.le_refl _,fun _ _ _=>rfl,fun _ _ hn=>hn,fun _ _ hn=>hn⟩⟩
  . have hl:l≠[]:=X.pos (by rw[h1];simp);have hg:=(hH g o h2).rw (by rw[h3];decide);have hn:=X.n;have hcells:nG l=o.cs.take l.length:=by rw[h7,hn,Nat.mul_one]
    obtain⟨a,n,c⟩:=sl;simp only at h1 hn h4 h5 h6;subst h1 hn;refine (Wh b g c _ _ _ o.cs.toArray l w hw (by rw[<- h3];exact hg) hl h5 h6 (by simp[h4]) (fun j x hj=>?_)).mono ?_
    . have hlt:=(List.getElem?_eq_some_iff.1 hj).1;have:(nG l)[j]? = some (Value.int .u8 x.toNat):=by simp[nG,hj]
      rw[hcells,List.getElem?_take,if_pos hlt] at this;simpa using this
    . rintro e w' ⟨rfl,rfl⟩;have hfz:∀ k,k≠g->(w.drew.freeze ⟨g,0,none⟩ l.length).heap[k]? = w.heap[k]?:=fun k hk=>by
       unfold World.freeze;split
       . rfl
       . simp only[Array.getElem?_modify,if_neg hk.symm];rfl
      have hφ':φ (.string (B l)) (h.del g):=hφ;refine⟨_,h.del g,rfl,hφ',fun k o' hk=>?_,⟨?_,?_,?_,?_,fun k _ hk=>?_,fun k _ hk=>?_,fun k _ hk o ho=>hk o (by simp only[Hp.del] at ho;split at ho;cases ho;exact ho)⟩⟩
      . have hkg:k≠g:=fun e=>by rw[e] at hk;simp[Hp.del] at hk
        rw[hfz k hkg];refine hH k o' ?_;simp only[Hp.del,if_neg hkg] at hk;exact hk
      . unfold World.freeze;split<;>rfl
      . unfold World.freeze;split<;>rfl
      . unfold World.freeze;split<;>rfl
      . unfold World.freeze;split
        . exact Nat.le_refl _
        . show w.heap.size<=(w.drew.heap.modify g _).size;rw[Array.size_modify];exact Nat.le_refl _
      . exact hfz k (hk.ne h2 (by rw[h3];decide))
      . simp only[Hp.del];split
        . rfl
        . exact hk
end
def dg (m:Nat):UInt8:=UInt8.ofNat (48+m)
def ZU:Nat->Nat->List UInt8->List UInt8
 | 0,_,t=>t
 | k+1,m,t=>if m<10 then dg m::t else ZU k (m / 10) (dg (m % 10)::t)
def dec (m:Nat):List UInt8:=ZU 20 m []
def txt (n:Int):List UInt8:=if n<0 then 45::dec n.natAbs else dec n.natAbs
section
attribute [local go_sem] Px dW fF gm kC rX
theorem Ez (b q:Nat) (hq:q<20) (W:World):(Instr.sliceAt 113 (.pointer (some ⟨b,0,none⟩)) (some (.int .i64 (q:Int))) none none).run Tryz.prog W=.ok (.slice (some ⟨b,q,none⟩) (20 - q) (20 - q)) W:=by
 have hu:Tryz.prog.underlying 113=some (.array (Tryz.prog.arrayLen 113) (Tryz.prog.elem 113)):=by
  simp[Program.arrayLen,Program.elem,Tryz.underlying113]
 have hl:Tryz.prog.arrayLen 113=20:=by simp[Program.arrayLen,Tryz.underlying113]
 rw[run_sliceAt_array_l W _ _ hu _ _ (by omega) (by rw[hl];omega)];have he:(sizeOf (Tryz.prog.elem 113)).run Tryz.prog W=.ok 1 W:=by
  simp[go_sem,Program.elem]
 rw[he];have hq2:¬ 20=q:=by omega
 simp[Result.andThen,slicedAt,hl,Addr.add,hq2];intro h;subst h;rfl
def TC (b:Nat) (t:List UInt8) (wr:World):Prop:=
 (∀ i,i<20->wr.cell? ⟨b,i,none⟩=some (was wr b i)/\wr.frozen? ⟨b,i,none⟩=false)/\∀ j,j<t.length->wr.cell? ⟨b,20 - t.length+j,none⟩=some (.int .u8 (bt t j))
theorem Jg {b q:Nat} {t:List UInt8} {wr:World} (h:TC b t wr) (hq:q+1+t.length=20) (c:UInt8) (v:Int) (hv:v=c.toNat):TC b (c::t) (wr.setCell ⟨b,q,none⟩ (.int .u8 v)):=by
 subst hv;refine⟨fun i hi=>⟨SC _ _ (h.1 i hi).1,?_⟩,fun j hj=>?_⟩
 . rw[World.frozen?_setCell];exact (h.1 i hi).2
 . simp only[List.length_cons] at hj⊢;cases j with
   | zero=>
     rw[show 20 - (t.length+1)+0=q by omega,jS];exact World.cell?_setCell_same _ _ _ (h.1 q (by omega)).1
   | succ j=>
     rw[show 20 - (t.length+1)+(j+1)=20 - t.length+j by omega,Xv,World.cell?_setCell_other _ _ _ _ (by simp only[ne_eq,Addr.mk.injEq,not_and];omega)];exact h.2 j (by omega)
theorem EY {b q:Nat} {t:List UInt8} {W:World} (h:TC b t W) (hl:t.length=20 - q) (hq:q<=20):(convert 44 9 (.slice (some ⟨b,q,none⟩) (20 - q) (20 - q))).run Tryz.prog W=.ok (.string (B t)) W:=by
 rw[<- hl];refine vZ W _ _ 5 b q _ t Tryz.underlying44 Tryz.underlying5 Tryz.underlying9 fun j hj=>?_
 rw[show q+j=20 - t.length+j by omega];exact h.2 j hj
theorem EZ (w:World) (bl:Array Value) (ty:TypeId) (hs:bl.size=20):TC w.heap.size [] (w.alloc (.cells bl ty)):=by
 refine⟨fun i hi=>?_,fun j hj=>by simp at hj⟩;have hc:(w.alloc (.cells bl ty)).cell? ⟨w.heap.size,i,none⟩=some (bl[i]'(by omega)):=by
  rw[World.cell?_alloc_new];simp[hs,hi]
 refine⟨Xj hc,?_⟩;exact World.frozen?_alloc_new _ _ _ _
structure TI (m0 q m:Nat) (t:List UInt8):Prop where
 len:q+1+t.length=20
 go:ZU (q+1) m t=dec m0
 le:m*10 ^ t.length<=m0
 pos:t=[]\/1<=m
theorem TI.room {m0 q m:Nat} {t:List UInt8} (h:TI m0 q m t) (hm:m0<=9223372036854775808):1<=q/\m<=m0:=by
 obtain⟨hl,_,hle,hp⟩:=h;have hpw:1<=10 ^ t.length:=Nat.one_le_pow _ _ (by decide);have h1:m<=m*10 ^ t.length:=Nat.le_mul_of_pos_right _ hpw;refine⟨?_,Nat.le_trans h1 hle⟩;rcases hp with rfl | hp
 . simp at hl;omega
 . have h2:1*10 ^ t.length<=m*10 ^ t.length:=Nat.mul_le_mul_right _ hp;by_cases hq:1<=q
   . exact hq
   . exfalso;have:t.length=19:=by omega
     rw[this] at h2 hle;have h3:=Nat.le_trans h2 hle;omega
theorem TI.next {m0 q m:Nat} {t:List UInt8} (h:TI m0 q m t) (hm:m0<=9223372036854775808) (h10:¬ m<10):∃ q',q=q'+1/\TI m0 q' (m / 10) (dg (m % 10)::t):=by
 have hr:=h.room hm;obtain⟨hl,hg,hle,hp⟩:=h;refine⟨q - 1,by omega,by simp;omega,?_,?_,Or.inr (by omega)⟩
 . rw[show q - 1+1=q by omega,<- hg,ZU,if_neg h10]
 . rw[List.length_cons,Nat.pow_succ];have:m / 10*(10 ^ t.length*10)=(m / 10*10)*10 ^ t.length:=by
    rw[Nat.mul_comm (10 ^ t.length) 10,Nat.mul_assoc]
   rw[this];exact Nat.le_trans (Nat.mul_le_mul_right _ (by omega)) hle
theorem TI.last {m0 q m:Nat} {t:List UInt8} (h:TI m0 q m t) (h10:m<10):dg (m % 10)::t=dec m0:=by
 have:=h.go;rw[ZU,if_pos h10] at this;rw[<- this,show m % 10=m by omega]
theorem TI.start (m0:Nat):TI m0 19 m0 []:=⟨by simp,rfl,by simp,Or.inl rfl⟩
theorem AP (m:Nat):(48:Int)+(m:Int) % 10=((dg (m % 10)).toNat:Int):=by
 simp[dg];omega
set_option maxRecDepth 100000 in
set_option maxHeartbeats 4000000 in
theorem WZ (m0:Nat) (hm:m0<=9223372036854775808) (hp:0<(m0:Int)) (w:World):
 Calls Tryz.prog 54 #[.int .i64 m0] w fun e w'=>e=.returned (.string (B (dec m0)))/\Below w.heap.size w w':=by
 have hp2:0<m0:=by omega
 go_enter Tryz.func54,Tryz.ntmps54
 go_wp2
 go_loopw [4,5] (fun a l wr=>∃ (q m:Nat) (t:List UInt8),TI m0 q m t/\a=.int .i64 (↑q+1)/\l=.int .i64 (-(m:Int))/\TC w.heap.size t wr/\Below w.heap.size w wr) (fun a _ _=>(intOf a).toNat)
 case atStart=>exact⟨19,m0,[],TI.start m0,rfl,rfl,EZ _ _ _ rfl,(by (repeat (first | (with_reducible exact Below.refl _ _) | (with_reducible assumption) | (with_reducible refine Below.drew ?_) | (with_reducible refine below_draws ?_ _) | ((with_reducible refine Below.setCell ?_ ?_ _);rotate_left;(first | (with_reducible exact Nat.le_refl _) | (focus (simp;done)) | (focus (simp;omega)) | omega)) | ((with_reducible refine Below.alloc ?_ ?_ _);rotate_left;(first | (with_reducible exact Nat.le_refl _) | (focus (simp;done)) | (focus (simp;omega)) | omega)))))⟩
 case round=>
  obtain⟨q,m,t,ht,rfl,rfl,hc,hB⟩:=hrel;obtain⟨hc1,hc2⟩:=hc.1 q (by have:=ht.len;omega);have hq2:q<20:=by have:=ht.len;omega
  obtain⟨hr1,hr2⟩:=ht.room hm;have hc':=Jg hc ht.len (dg (m % 10)) _ (AP m);have hB':=hB.setCell (p:=⟨w.heap.size,q,none⟩) (Nat.le_refl _) (.int .u8 (48+(m:Int) % 10));have hsl:=Ez w.heap.size q hq2;by_cases h10:m<10
  . have hcv:=EY (q:=q) hc' (by simp;have:=ht.len;omega) (by omega);have hlast:=ht.last h10;have HT:=Lib.hid ht;have HC:=Lib.hid hc';clear ht hc hc'
    go_wp2
    go_ret
    exact⟨by rw[<- hlast];rfl,hB'⟩
  . obtain⟨q',rfl,ht'⟩:=ht.next hm h10
    have hz:(-((m:Int) / 10)==0)=false:=by simp;omega
    clear ht hc
    go_wp2
    go_roundw
    case rel=>exact⟨q',m / 10,_,ht',by go_num,by go_num,hc',hB'⟩
    case measure=>simp[intOf];omega
set_option maxRecDepth 100000 in
set_option maxHeartbeats 4000000 in
theorem WY (m0:Nat) (hm:m0<=9223372036854775808) (hp:0<(m0:Int)) (w:World):
 Calls Tryz.prog 54 #[.int .i64 (-(m0:Int))] w fun e w'=>e=.returned (.string (B (45::dec m0)))/\Below w.heap.size w w':=by
 have hn0:¬ 0 < -(m0:Int):=by omega
 have hn1:-(m0:Int)<0:=by omega
 go_enter Tryz.func54,Tryz.ntmps54
 go_wp2
 go_loopw [4,5] (fun a l wr=>∃ (q m:Nat) (t:List UInt8),TI m0 q m t/\a=.int .i64 (↑q+1)/\l=.int .i64 (-(m:Int))/\TC w.heap.size t wr/\Below w.heap.size w wr) (fun a _ _=>(intOf a).toNat)
 case atStart=>exact⟨19,m0,[],TI.start m0,rfl,rfl,EZ _ _ _ rfl,(by (repeat (first | (with_reducible exact Below.refl _ _) | (with_reducible assumption) | (with_reducible refine Below.drew ?_) | (with_reducible refine below_draws ?_ _) | ((with_reducible refine Below.setCell ?_ ?_ _);rotate_left;(first | (with_reducible exact Nat.le_refl _) | (focus (simp;done)) | (focus (simp;omega)) | omega)) | ((with_reducible refine Below.alloc ?_ ?_ _);rotate_left;(first | (with_reducible exact Nat.le_refl _) | (focus (simp;done)) | (focus (simp;omega)) | omega)))))⟩
 case round=>
  obtain⟨q,m,t,ht,rfl,rfl,hc,hB⟩:=hrel;obtain⟨hc1,hc2⟩:=hc.1 q (by have:=ht.len;omega);have hq2:q<20:=by have:=ht.len;omega
  obtain⟨hr1,hr2⟩:=ht.room hm;have hc':=Jg hc ht.len (dg (m % 10)) _ (AP m);have hB':=hB.setCell (p:=⟨w.heap.size,q,none⟩) (Nat.le_refl _) (.int .u8 (48+(m:Int) % 10));by_cases h10:m<10
  . obtain⟨p,rfl⟩:∃ p,q=p+1:=⟨q - 1,by omega⟩;have hp2:p<20:=by omega
    have hsl:=Ez w.heap.size p hp2;obtain⟨hc3,hc4⟩:=hc'.1 p (by omega);have hc'':=Jg (q:=p) hc' (by have:=ht.len;simp;omega) 45 45 rfl;have hB'':=hB'.setCell (p:=⟨w.heap.size,p,none⟩) (Nat.le_refl _) (.int .u8 45);have hcv:=EY (q:=p) hc'' (by simp;have:=ht.len;omega) (by omega);have hlast:=ht.last h10;clear ht hc hc' hc''
    go_wp2
    go_ret
    exact⟨by rw[<- hlast];rfl,hB''⟩
  . obtain⟨q',rfl,ht'⟩:=ht.next hm h10
    have hz:(-((m:Int) / 10)==0)=false:=by simp;omega
    clear ht hc
    go_wp2
    go_roundw
    case rel=>exact⟨q',m / 10,_,ht',by go_num,by go_num,hc',hB'⟩
    case measure=>simp[intOf];omega
set_option maxRecDepth 100000 in
set_option maxHeartbeats 4000000 in
theorem Sm (w:World):
 Calls Tryz.prog 54 #[.int .i64 0] w fun e w'=>e=.returned (.string (B [48]))/\Below w.heap.size w w':=by
 have hsl:=Ez w.heap.size 19 (by omega);have hcv:=vZ (P:=Tryz.prog) (w.alloc (.cells #[.int .u8 0,.int .u8 0,.int .u8 0,.int .u8 0,.int .u8 0,.int .u8 0,.int .u8 0,.int .u8 0,.int .u8 0,.int .u8 0,.int .u8 0,.int .u8 0,.int .u8 0,.int .u8 0,.int .u8 0,.int .u8 0,.int .u8 0,.int .u8 0,.int .u8 0,.int .u8 48] 113)) _ _ 5 w.heap.size 19 1 [48] Tryz.underlying44 Tryz.underlying5 Tryz.underlying9 (by
  intro j hj;have:j=0:=by simp at hj;omega
  subst this;rw[World.cell?_alloc_new];rfl)
 rw[show ([48]:List UInt8).length=1 from rfl] at hcv
 go_enter Tryz.func54,Tryz.ntmps54
 go_wp2
 refine wp_loop_rounds 2 ?_
 repeat (rw[rounds_succ];go_wp2)
 go_ret
 exact⟨rfl,(by (repeat (first | (with_reducible exact Below.refl _ _) | (with_reducible assumption) | (with_reducible refine Below.drew ?_) | (with_reducible refine below_draws ?_ _) | ((with_reducible refine Below.setCell ?_ ?_ _);rotate_left;(first | (with_reducible exact Nat.le_refl _) | (focus (simp;done)) | (focus (simp;omega)) | omega)) | ((with_reducible refine Below.alloc ?_ ?_ _);rotate_left;(first | (with_reducible exact Nat.le_refl _) | (focus (simp;done)) | (focus (simp;omega)) | omega)))))⟩
theorem WX (n:Int) (h0:-9223372036854775808<=n) (h1:n<=9223372036854775807) (w:World):
 Calls Tryz.prog 54 #[.int .i64 n] w fun e w'=>e=.returned (.string (B (txt n)))/\Below w.heap.size w w':=by
 by_cases hp:0<n
 . have:=WZ n.natAbs (by omega) (by omega) w;rw[show ((n.natAbs:Nat):Int)=n by omega] at this;unfold txt;rw[if_neg (by omega)];exact this
 . by_cases hn:n<0
   . have:=WY n.natAbs (by omega) (by omega) w;rw[show -((n.natAbs:Nat):Int)=n by omega] at this;unfold txt;rw[if_pos hn];exact this
   . obtain rfl:n=0:=by omega
     exact Sm w
end
end Go.Proofs.YtllbpdllkkcajaaGreatDoor
