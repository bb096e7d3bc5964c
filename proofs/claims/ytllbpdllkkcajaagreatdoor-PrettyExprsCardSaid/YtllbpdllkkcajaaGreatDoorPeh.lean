/- hindcastlaw07: texts joined: PreA, TreM, ParH, ParI, ParJ, ParK, ParL, ParM, ParN. -/
import Derived.Test.YtllbpdllkkcajaaGreatDoorPeg
namespace Go.Proofs.YtllbpdllkkcajaaGreatDoor
open Go.RowKit
def oJ (op:Int):List UInt8×Nat:=
 if op=15 then ([124,124],1) else if op=14 then ([38,38],2) else if op=6 then ([61,61],3) else if op=7 then ([33,61],3)
 else if op=8 then ([60],4) else if op=9 then ([60,61],4) else if op=10 then ([62],4) else if op=11 then ([62,61],4)
 else if op=1 then ([43],5) else if op=2 then ([45],5) else if op=3 then ([42],6) else if op=4 then ([47],6) else ([37],6)
def Tr.lv:Tr->Nat
 | .nd k _ _ n _ _=>if k=31 then (oJ n).2 else if k=30 then 7 else 8
def qb (c:UInt8):List UInt8:=
 if c=34\/c=92 then [92,c] else if c=10 then [92,110] else if c=9 then [92,116]
 else if c.toNat<32\/126<c.toNat then [92,120,hxd (c.toNat / 16),hxd (c.toNat % 16)] else [c]
where hxd (n:Nat):UInt8:=if n<10 then UInt8.ofNat (48+n) else UInt8.ofNat (87+n)
def quo (x:List UInt8):List UInt8:=34::(x.flatMap qb++[34])
def brk (b:Bool) (s:List UInt8):List UInt8:=if b then 40::(s++[41]) else s
def qU:Tr->List UInt8
 | .nd k _ _ _ x ks=>if k=15 then SA else if k=16 then CW else if k=17 then SB else if k=18 then CX else if k=19 then x else
   match ks with
   | t::_=>91::(qU t++[93])
   | []=>[]
def EP (n:Nat):Nat:=if n=3\/n=4 then n+1 else n
mutual
def tx:Tr->List UInt8
 | .nd k _ _ n x ks=>
   if k=21 then txt n
   else if k=22 then txt n++[105]
   else if k=23 then quo x
   else if k=24 then (if n=1 then oL else jO)
   else if k=25 then wJ
   else if k=26 then x
   else if k=27 then x++(40::(oN ks++[41]))
   else if k=28 then (match ks with | a::b::_=>brk (decide (a.lv<8)) (tx a)++(91::(tx b++[93])) | _=>[])
   else if k=29 then (match ks with | a::_=>brk (decide (a.lv<8)) (tx a)++(46::x) | _=>[])
   else if k=30 then (match ks with | a::_=>(if n=12 then 45 else 33)::brk (decide (a.lv<7)) (tx a) | _=>[])
   else if k=31 then (match ks with | a::b::_=>brk (decide (a.lv<EP (oJ n).2)) (tx a)++(32::((oJ n).1++(32::brk (decide (b.lv<(oJ n).2+1)) (tx b)))) | _=>[])
   else if k=32 then (match ks with | a::bs=>fZ++(32::(qU a++(40::(oN bs++[41])))) | _=>[])
   else []
def oN:List Tr->List UInt8
 | []=>[]
 | t::ts=>tx t++Xf ts
def Xf:List Tr->List UInt8
 | []=>[]
 | t::ts=>44::32::(tx t++Xf ts)
end
section
variable (l c n:Int) (x:List UInt8)
theorem EH:tx (.nd 26 l c n x [])=x:=by rw[tx.eq_def];simp
theorem EG (ks:List Tr):tx (.nd 27 l c n x ks)=x++(40::(oN ks++[41])):=by rw[tx.eq_def];simp
theorem zN (a b:Tr):tx (.nd 28 l c n x [a,b])=brk (decide (a.lv<8)) (tx a)++(91::(tx b++[93])):=by rw[tx.eq_def];simp
theorem LX (a:Tr):tx (.nd 29 l c n x [a])=brk (decide (a.lv<8)) (tx a)++(46::x):=by rw[tx.eq_def];simp
theorem Xe (a:Tr):tx (.nd 30 l c n x [a])=(if n=12 then 45 else 33)::brk (decide (a.lv<7)) (tx a):=by rw[tx.eq_def];simp
theorem LV (a b:Tr):tx (.nd 31 l c n x [a,b])=brk (decide (a.lv<EP (oJ n).2)) (tx a)++(32::((oJ n).1++(32::brk (decide (b.lv<(oJ n).2+1)) (tx b)))):=by rw[tx.eq_def];simp
theorem qG (a:Tr) (bs:List Tr):tx (.nd 32 l c n x (a::bs))=fZ++(32::(qU a++(40::(oN bs++[41])))):=by rw[tx.eq_def];simp
end
def vk (x:List UInt8):Prop:=jb (bt x 0)=1/\(∀ c∈x,inB c.toNat=true)/\gW x=false/\x.length<=1000000
def uz (x:List UInt8):Prop:=jb (bt x 0)=2/\(∀ c∈x,inB c.toNat=true)/\x.length<=1000000
inductive E5:Tr->Prop
 | word (k l c:Int) (h:15<=k/\k<=18):E5 (.nd k l c 0 [] [])
 | big (l c:Int) (x:List UInt8) (h:uz x):E5 (.nd 19 l c 0 x [])
 | list (l c:Int) (t:Tr) (h:E5 t):E5 (.nd 20 l c 0 [] [t])
mutual
inductive kX:Tr->Prop
 | int (l c n:Int) (h:0<=n/\n<=9223372036854775807):kX (.nd 21 l c n [] [])
 | comp (l c n:Int) (h:0<=n/\n<=8388607):kX (.nd 22 l c n [] [])
 | str (l c:Int) (x:List UInt8) (h:x.length<=1000000):kX (.nd 23 l c 0 x [])
 | bool (l c n:Int) (h:n=0\/n=1):kX (.nd 24 l c n [] [])
 | nil (l c:Int):kX (.nd 25 l c 0 [] [])
 | name (l c:Int) (x:List UInt8) (h:vk x):kX (.nd 26 l c 0 x [])
 | call (l c:Int) (x:List UInt8) (h:vk x) (ks:List Tr) (hk:oP ks):kX (.nd 27 l c 0 x ks)
 | index (l c:Int) (a b:Tr) (ha:kX a) (hb:kX b):kX (.nd 28 l c 0 [] [a,b])
 | dot (l c:Int) (x:List UInt8) (h:vk x) (a:Tr) (ha:kX a):kX (.nd 29 l c 0 x [a])
 | un (l c n:Int) (h:n=12\/n=13) (a:Tr) (ha:kX a):kX (.nd 30 l c n [] [a])
 | bin (l c n:Int) (h:(1<=n/\n<=11)\/n=14\/n=15) (a b:Tr) (ha:kX a) (hb:kX b):kX (.nd 31 l c n [] [a,b])
 | make (l c l' c':Int) (x:List UInt8) (h:uz x):kX (.nd 32 l c 0 [] [.nd 19 l' c' 0 x []])
 | makes (l c l' c':Int) (t:Tr) (ht:E5 t) (b:Tr) (hb:kX b):kX (.nd 32 l c 0 [] [.nd 20 l' c' 0 [] [t],b])
inductive oP:List Tr->Prop
 | nil:oP []
 | cons (t:Tr) (ts:List Tr) (h:kX t) (hs:oP ts):oP (t::ts)
end
mutual
def Tr.bare:Tr->Tr
 | .nd k _ _ n x ks=>.nd k 0 0 n x (Zg ks)
def Zg:List Tr->List Tr
 | []=>[]
 | t::ts=>t.bare::Zg ts
end
section
attribute [local go_sem] aY aX aA ak ax aF aT aJ au says_again
def DN:Fm:=(.ite (.or (.eqI (.x 0) (.c 34)) (.eqI (.x 0) (.c 92)))
 (.mk [(.i .u8 (.c 92)),.U 0] 5 2
 (.str (.x 0)
 (.ret (.p (.S 0)))))
 (.ite (.eqI (.x 0) (.c 10))
 (.ret (.p (.W [92,110])))
 (.ite (.eqI (.x 0) (.c 9))
 (.ret (.p (.W [92,116])))
 (.ite (.or (.lt (.x 0) (.c 32)) (.lt (.c 126) (.x 0)))
 (.N (.le (.c 0) (.c 4))
 (.N (.le (.c 0) (.c 4))
 (.N (.and (.and (.le (.c 0) (.wr .u8 (.add (.sh .shr .u8 (.x 0) (.c 4)) (.c 1)))) (.le (.wr .u8 (.add (.sh .shr .u8 (.x 0) (.c 4)) (.c 1))) (.len (.c [48,49,50,51,52,53,54,55,56,57,97,98,99,100,101,102])))) (.and (.le (.c 0) (.sh .shr .u8 (.x 0) (.c 4))) (.le (.sh .shr .u8 (.x 0) (.c 4)) (.wr .u8 (.add (.sh .shr .u8 (.x 0) (.c 4)) (.c 1))))))
 (.N (.le (.add (.len (.c [92,120])) (.len (.sub (.c [48,49,50,51,52,53,54,55,56,57,97,98,99,100,101,102]) (.sh .shr .u8 (.x 0) (.c 4)) (.wr .u8 (.add (.sh .shr .u8 (.x 0) (.c 4)) (.c 1)))))) (.c 9223372036854775807))
 (.N (.and (.and (.le (.c 0) (.wr .u8 (.add (.bits .and .u8 (.x 0) (.c 15)) (.c 1)))) (.le (.wr .u8 (.add (.bits .and .u8 (.x 0) (.c 15)) (.c 1))) (.len (.c [48,49,50,51,52,53,54,55,56,57,97,98,99,100,101,102])))) (.and (.le (.c 0) (.bits .and .u8 (.x 0) (.c 15))) (.le (.bits .and .u8 (.x 0) (.c 15)) (.wr .u8 (.add (.bits .and .u8 (.x 0) (.c 15)) (.c 1))))))
 (.N (.le (.add (.len (.app (.c [92,120]) (.sub (.c [48,49,50,51,52,53,54,55,56,57,97,98,99,100,101,102]) (.sh .shr .u8 (.x 0) (.c 4)) (.wr .u8 (.add (.sh .shr .u8 (.x 0) (.c 4)) (.c 1)))))) (.len (.sub (.c [48,49,50,51,52,53,54,55,56,57,97,98,99,100,101,102]) (.bits .and .u8 (.x 0) (.c 15)) (.wr .u8 (.add (.bits .and .u8 (.x 0) (.c 15)) (.c 1)))))) (.c 9223372036854775807))
 (.ret (.p (.one (.s (.app (.app (.c [92,120]) (.sub (.c [48,49,50,51,52,53,54,55,56,57,97,98,99,100,101,102]) (.sh .shr .u8 (.x 0) (.c 4)) (.wr .u8 (.add (.sh .shr .u8 (.x 0) (.c 4)) (.c 1))))) (.sub (.c [48,49,50,51,52,53,54,55,56,57,97,98,99,100,101,102]) (.bits .and .u8 (.x 0) (.c 15)) (.wr .u8 (.add (.bits .and .u8 (.x 0) (.c 15)) (.c 1)))))))))))))))
 (.mk [.U 0] 5 1
 (.str (.x 0)
 (.ret (.p (.S 0)))))))))
theorem UH:aU ⟨true,[]⟩ Tryz.prog (fun l=>([]:List bG).getD l ⟨[],[],[]⟩) Tryz.f94=DN:=by kernel_rfl
theorem YB:az Tryz.prog .zero Tryz.f94.params.toList=some ([(.one (.U 0))],⟨1,0,0,0,0,0⟩):=by kernel_rfl
def GG:Fm:=(.new [(.c .nilp),(.sl .nil)] 46
 (.C 93 [.P 0,(.one (.i .u8 (.c 34)))] (.p (.one (.v 0))) ⟨0,0,0,1,0,0⟩
 (.loop 0 ⟨[(.c 0)],[],[],[],[],[]⟩
 (.ite (.lt (.x 0) (.len (.x 0)))
 (.N (.and (.le (.c 0) (.x 0)) (.lt (.x 0) (.len (.x 0))))
 (.C 94 [(.one (.i .u8 (.at (.x 0) (.x 0))))] (.p (.S 1)) ⟨0,0,1,0,0,0⟩
 (.C 68 [.P 0,.S 1] (.tup [.J 1,(.one (.v 1))]) ⟨1,0,0,1,0,0⟩
 (.N (.R (.add (.x 0) (.c 1)))
 (.again 0 ⟨0,0,1,1,0,1⟩ ⟨1,0,1,1,0,1⟩ ⟨[(.add (.x 0) (.c 1))],[],[],[],[],[]⟩)))))
 (.C 93 [.P 0,(.one (.i .u8 (.c 34)))] (.p (.one (.v 1))) ⟨0,0,0,1,0,0⟩
 (.C 27 [.P 0] (.p (.S 1)) ⟨0,0,1,0,0,0⟩
 (.ret (.p (.S 1)))))))))
theorem Qp:aU ⟨true,[3]⟩ Tryz.prog (fun l=>([⟨[8],[9,10,4,11,12,13,14,15,16],[]⟩]:List bG).getD l ⟨[],[],[]⟩) Tryz.f55=GG:=by kernel_rfl
theorem VO:az Tryz.prog .zero Tryz.f55.params.toList=some ([.S 0],⟨0,0,1,0,0,0⟩):=by kernel_rfl
def MK:Ct Tryz.prog where
 f:=54
 spec:=fun args h φ=>∃ n,args=[.int .i64 n]/\-9223372036854775808<=n/\n<=9223372036854775807/\φ (.string (B (txt n))) h
 ok:=by
  rintro args h φ w ⟨n,rfl,h0,h1,hφ⟩ hH;refine (WX n h0 h1 w).mono ?_;rintro e w' ⟨rfl,hb⟩;exact⟨_,h,rfl,hφ,hH.below hb,Fr.of_below hb⟩
def Fm.XH:Fm->Ctx->Option (List UInt8)
 | .need g c k,C=>if g.den C=true then (if c.den C=true then k.XH C else none) else k.XH C
 | .ite b t e,C=>if b.den C=true then t.XH C else e.XH C
 | .ret (.p (.one (.s e))),C=>some (e.den C)
 | _,_=>none
theorem mG {E:Env}:∀ (fm:Fm) (C:Ctx) (s:List UInt8),fm.XH C=some s->E.post (.string (B s)) C.h->fm.says E C
 | .need g c k,C,s,h,hp=>by
   rw[Fm.XH] at h;split at h
   . split at h
     . rename_i h1 h2;exact⟨fun _=>h2,mG k C s h hp⟩
     . cases h
   . rename_i h1;exact⟨fun h2=>absurd h2 h1,mG k C s h hp⟩
 | .ite b t e,C,s,h,hp=>by
   rw[Fm.XH] at h;split at h
   . rename_i h1;exact⟨fun _=>mG t C s h hp,fun h2=>by rw[h1] at h2;cases h2⟩
   . rename_i h1;exact⟨fun h2=>absurd h2 h1,fun _=>mG e C s h hp⟩
 | .ret (.p (.one (.s e))),C,s,h,hp=>by
   rw[Fm.XH] at h;cases h;exact hp
theorem Yf (h:Hp) (M:Nat->Nat):∀ n:Fin 256,n.val≠34->n.val≠92->(n.val<32\/126<n.val)->DN.XH ⟨[(n.val:Int)],[],[],[],[],[],h,M⟩=some (qb (UInt8.ofNat n.val)):=
 of_decide_eq_true (by kernel_rfl)
set_option maxHeartbeats 1000000 in
def TL:Ct Tryz.prog where
 f:=94
 spec:=fun args h φ=>∃ c:UInt8,args=[.int .u8 (c.toNat:Nat)]/\φ (.string (B (qb c))) h
 ok:=by
  rintro args h φ w ⟨c,rfl,hφ⟩ hH;refine bQ (aZ Tryz.func94 UH YB [] (fun v k=>∃ k',bY k' k/\φ v k') (bJ) (aV) ⟨[((c.toNat:Nat):Int)],[],[],[],[],[],h,cu⟩ ⟨rfl,rfl,rfl,rfl,rfl,rfl⟩ af ?_ w hH rfl);generalize hE:(⟨aG _,_,_,_⟩:Env)=E;have ep:E.post=(fun v k=>∃ k',bY k' k/\φ v k'):=by rw[<- hE]
  clear hE;unfold DN;have hc:=c.toNat_lt;have h92:UInt8.ofNat 92=(92:UInt8):=rfl;by_cases hq:c=34\/c=92
  . have hq2:(c.toNat:Int)=34\/(c.toNat:Int)=92:=by
     rcases hq with rfl | rfl
     . exact .inl rfl
     . exact .inr rfl
    have e:qb c=[92,c]:=by unfold qb;rw[if_pos hq]
    rw[e] at hφ;rw[ak,if_pos (by simpa[go_sem] using hq2),ae,aW];intro b hb;have hb':∀ o,bY h (h.set b o):=fun o=>dU (show h b=none from hb) o
    rw[ae,eQ];refine⟨[92,c],.inr ?_,?_⟩
    . show hread (h.set b _) (some (b,0)) 2=_;rw[bI (ay _ _ _)];rfl
    rw[aj,ep];exact⟨h,hb' _,hφ⟩
  . have hq2:¬ ((c.toNat:Int)=34\/(c.toNat:Int)=92):=by
     intro h;refine hq ?_;rcases h with h | h
     . exact .inl (UInt8.toNat.inj (by simpa using (show c.toNat=34 by omega)))
     . exact .inr (UInt8.toNat.inj (by simpa using (show c.toNat=92 by omega)))
    by_cases hr:c.toNat<32\/126<c.toNat
    . have:=Yf h cu ⟨c.toNat,hc⟩ (fun e=>hq2 (.inl (by simp only at e;omega))) (fun e=>hq2 (.inr (by simp only at e;omega))) hr;refine mG _ _ _ this ?_;rw[ep];refine⟨h,fun _ _ h=>h,?_⟩;simpa using hφ
    . have e:qb c=[c]:=by
       unfold qb;rw[if_neg hq,if_neg,if_neg,if_neg hr]
       . rintro rfl;exact hr (by decide)
       . rintro rfl;exact hr (by decide)
      rw[e] at hφ;rw[ak,if_neg (by simpa[go_sem] using hq2),ae,ak,if_neg (by simp[go_sem];omega),ae,ak,if_neg (by simp[go_sem];omega),ae,ak,if_neg (by simp[go_sem];omega),ae,aW];intro b hb;have hb':∀ o,bY h (h.set b o):=fun o=>dU (show h b=none from hb) o
      rw[ae,eQ];refine⟨[c],.inr ?_,?_⟩
      . show hread (h.set b _) (some (b,0)) 1=_;rw[bI (ay _ _ _)];rfl
      rw[aj,ep];exact⟨h,hb' _,hφ⟩
theorem ZR {k:Hp} {w:World} {b:Nat} {s0 s1:bM} {used:Bool} (H:Holds k w) (hb:k b=some ⟨bld b used s0,BT⟩):Holds (k.set b ⟨bld b used s1,BT⟩) (w.setCell ⟨b,1,none⟩ s1.val)/\Fr w.heap.size k (k.set b ⟨bld b used s1,BT⟩) w (w.setCell ⟨b,1,none⟩ s1.val):=by
 have hw:=(H b _ hb).rw (show BT≠1000003 by decide);refine⟨fun c o hc=>?_,⟨rfl,rfl,rfl,by simp[World.setCell],fun c hc hn=>jm (hn.ne hb (show BT≠1000003 by decide)) _,fun c hc hn=>?_,fun c hc hn=>hn.set (hn.ne hb (show BT≠1000003 by decide))⟩⟩
 . by_cases e:c=b
   . subst e;rw[ay] at hc;cases hc;refine .of ?_;simp[World.setCell,Array.getElem?_modify,hw,bld]
   . rw[bf _ e] at hc;rw[jm e];exact H c o hc
 . rw[bf _ (fun e=>by rw[e,hb] at hn;cases hn)];exact hn
set_option maxHeartbeats 2000000 in
set_option maxRecDepth 100000 in
def Fv:Ct Tryz.prog where
 f:=68
 spec:=fun args h φ=>∃ b used sl l s,args=[.pointer (some ⟨b,0,none⟩),.string (B s)]/\SL h b used sl l/\l.length+s.length<=1000000000000/\
  ∀ sl' k,SL k b true sl' (l++s)->wF h k b sl sl'->φ (.tuple #[.int .i64 s.length,.nilIface]) k
 ok:=by
  rintro args h φ w ⟨b,used,sl,l,s,rfl,X,hl,hφ⟩ hH;obtain⟨i0,hi,hz0,hz1,hz2⟩:=info_parts (P:=Tryz.prog) (e:=5) (z:=.int .u8 0) (size:=1) (bytes:=1) (by kernel_rfl)
  go_enter Tryz.func68,Tryz.ntmps68
  have e1:∀ args w,(callFunc 104 args).run Tryz.prog w=.ok (.enter 104 args) w:=enters_of Tryz.func104 (by kernel_rfl) rfl
  go_wp2_with (go_at_fn 104;refine (oV.ok [.pointer (some ⟨b,0,none⟩)] h (fun v k=>v=.tuple #[]/\k=h.set b ⟨bld b true sl,BT⟩) w ⟨b,used,sl,rfl,X.at_,rfl,rfl⟩ hH).mono ?_)
  rintro e w1 ⟨v,k,rfl,⟨rfl,rfl⟩,hH1,hF1⟩;have hown1:dC (h.set b ⟨bld b true sl,BT⟩) sl (nG l) 5 1:=jA X.own X.ne _;have hb1:(h.set b ⟨bld b true sl,BT⟩) b=some ⟨bld b true sl,BT⟩:=ay _ _ _;have c2:w1.cell? ⟨b,1,none⟩=some sl.val:=by rw[Lib.cell_of_heap ((hH1 _ _ hb1).rw (show BT≠1000003 by decide))];rfl
  go_wp2_with (at_builtin;go_must (refine lX rfl _ _ 44 9 rfl hH1 5 i0 Tryz.underlying44 Tryz.underlying9 hi hz0 hz1 hz2 sl _ rfl hown1 (B s) rfl ?c3 (by decide) ?_))
  case c3=>rw[dW,X.n];omega
  rintro s' h' w2 ⟨g1,g2,g3,g4,hH2,hF2,g5⟩;have hb2:h' b=some ⟨bld b true sl,BT⟩:=g4 b _ X.ne hb1;have d2:w2.cell? ⟨b,1,none⟩=some sl.val:=by rw[Lib.cell_of_heap ((hH2 _ _ hb2).rw (show BT≠1000003 by decide))];rfl
  have f2:w2.frozen? ⟨b,1,none⟩=false:=Lib.frozen_of_heap ((hH2 _ _ hb2).rw (show BT≠1000003 by decide)) 1;obtain⟨hH3,hF3⟩:=ZR (s1:=s') hH2 hb2;rw[zL,<- show nG (l++s)=nG l++nG s by simp[nG]] at g1;rw[dW] at g2 g5;have hne':∀ z,s'.a=some z->z.1≠b:=fun z hz=>by
   rcases g3 z hz with ⟨y,hy,e⟩ | hn
   . rw[<- e];exact X.ne y hy
   . intro e;rw[e,hb1] at hn;cases hn
  have hsn:sl.n=l.length:=X.n;have hP:SL (h'.set b ⟨bld b true s',BT⟩) b true s' (l++s):=by
   refine⟨ay _ _ _,jA g1 hne' _,by rw[g2,hsn];simp,hne',fun ha=>?_,fun ha=>?_⟩
   . obtain⟨h0,h1⟩:=g5.1 ha;rw[X.fit h0,List.eq_nil_of_length_eq_zero h1];rfl
   . intro e;obtain⟨el,es⟩:=List.append_eq_nil_iff.1 e;refine ha (g5.2 ⟨?_,by rw[es];rfl⟩);cases hc:sl.a with
     | none=>rfl
     | some q=>exact absurd el (X.pos (by rw[hc];simp))
  have hφ':=hφ s' _ hP ⟨fun c o hc hz ho=>by
   rw[bf _ hc];exact g4 c o hz (by rw[bf _ hc];exact ho),fun z hz=>by
   rcases g3 z hz with hy | hn
   . exact .inl hy
   . refine .inr ?_;rw[bf _ (hne' z hz)] at hn;exact hn⟩
  have hFr:=(hF1.trans hF2 hF1.size).trans hF3 (Nat.le_trans hF1.size hF2.size);obtain⟨sa,sn,sc⟩:=s';rw[hsn] at g2;have g2':sn=l.length+s.length:=g2;subst g2';clear g1 g2 g3 g4 g5;simp only[bM.val] at hFr hH3 hφ'⊢
  go_wp2
  go_ret2
  refine⟨_,rfl,_,?_,hH3,hFr⟩;simpa[dW] using hφ'
theorem uI {h:Hp} {b c:Nat} {o:HO} (hb:h b=none) (hc:(h.set b o) c=none):h c=none:=by
 by_cases e:c=b
 . rw[e];exact hb
 . rw[bf _ e] at hc;exact hc
def Wn (h:Hp) (s:List UInt8) (_:Nat) (C:Ctx):Prop:=
 ∃ (j:Nat) (v:Value) (b:Nat) (sl:bM) (k:Hp),C=⟨[j],[],[s],[v],[],[some (b,0)],k,cu⟩/\j<=s.length/\SL k b true sl (34::(s.take j).flatMap qb)/\h b=none/\(∀ z,sl.a=some z->h z.1=none)/\bY h k
theorem aat (c:UInt8):(qb c).length<=4:=by
 unfold qb
 repeat' split
 all_goals simp
theorem OM (s:List UInt8):(s.flatMap qb).length<=4*s.length:=by
 induction s with
 | nil=>simp
 | cons c s ih=>rw[List.flatMap_cons,List.length_append,List.length_cons];have:=aat c;omega
set_option maxHeartbeats 2000000 in
def MO:Ct Tryz.prog where
 f:=55
 spec:=fun args h φ=>∃ s,args=[.string (B s)]/\s.length<=1000000/\φ (.string (B (quo s))) h
 ok:=by
  rintro args h φ w ⟨s,rfl,hs,hφ⟩ hH;refine bQ (aZ Tryz.func55 Qp VO [jE,TL,Fv,sK] (fun v k=>∃ k',bY k' k/\φ v k') (Wn h s) (fun _ C=>((s.length:Int) - C.i.getD 0 0).toNat) ⟨[],[],[s],[],[],[],h,cu⟩ ⟨rfl,rfl,rfl,rfl,rfl,rfl⟩ af ?_ w hH rfl);generalize hE:(⟨aG _,_,_,_⟩:Env)=E;have sa2:E.spec 93=(jE).spec:=by rw[<- hE];rfl
  have sa3:E.spec 94=(TL).spec:=by rw[<- hE];rfl
  have sa4:E.spec 68=(Fv).spec:=by rw[<- hE];rfl
  have sa5:E.spec 27=(sK).spec:=by rw[<- hE];rfl
  have ep:E.post=(fun v k=>∃ k',bY k' k/\φ v k'):=by rw[<- hE]
  have ei:E.inv=(Wn h s):=by rw[<- hE]
  have em:E.meas=(fun _ C=>((s.length:Int) - C.i.getD 0 0).toNat):=by rw[<- hE]
  clear hE;unfold GG;rw[dN];intro b hb;have hb':h b=none:=hb;rw[ai,sa2];refine⟨b,false,⟨none,0,0⟩,[],34,rfl,⟨ay _ _ _,.inl ⟨rfl,rfl⟩,rfl,fun z hz=>(by cases hz),fun _=>rfl,fun hz=>absurd rfl hz⟩,by decide,by decide,by simp,fun sl k X hk hn=>?_⟩;refine⟨fun h=>(by cases h),(bn _ _).2 ⟨⟨[],[],[],[.nilIface],[],[]⟩,rfl,by intro u hu;simp at hu;subst hu;rfl,rfl,?_⟩⟩;rw[ae];refine bH ?_ ?_
  . rw[ei];refine⟨0,.nilIface,b,sl,k,rfl,by omega,X,hb',fun z hz=>?_,fun c o hc=>hk c o (fun e=>by rw[e,hb'] at hc;cases hc) (fun z hz=>by cases hz) ?_⟩
    . rcases hn z hz with ⟨y,hy,_⟩ | hn
      . cases hy
      . exact uI hb' hn
    . show (h.set b _) c=_;rw[bf _ (fun e=>by rw[e,hb'] at hc;cases hc)];exact hc
  rw[ei,em];rintro i bb ss v ll pp hh M ⟨j,v,b,sl,k,hC,hj,X,hb',hz,hle⟩ hM;cases hC;have hM':M 0=((s.length:Int) - j).toNat:=hM;by_cases hj2:j<s.length
  . have hzz:(j:Int)<s.length:=by omega
    have hget:bt s j=((s[j].toNat:Nat):Int):=by unfold bt;rw[List.getD_eq_getElem?_getD,List.getElem?_eq_getElem hj2];rfl
    rw[ak,if_pos (by simpa[go_sem] using hzz),ae,aA];refine⟨by simp[go_sem];omega,?_⟩;rw[ai,sa3];refine⟨s[j],?_,?_⟩
    . show [Value.int .u8 (bt s ((j:Nat):Int).toNat)]=_;rw[Int.toNat_natCast,hget]
    refine rR ⟨[],[],[qb s[j]],[],[],[]⟩ rfl af rfl ?_;have htk:(s.take (j+1)).flatMap qb=(s.take j).flatMap qb++qb s[j]:=by rw[List.take_succ_eq_append_getElem hj2,List.flatMap_append];simp only[List.flatMap_cons,List.flatMap_nil,List.append_nil]
    have hl1:=OM (s.take (j+1));rw[htk,List.length_append,List.length_take] at hl1;rw[ai,sa4];refine⟨b,true,sl,_,qb s[j],rfl,X,by rw[List.length_cons];omega,fun sl2 k2 X2 G=>?_⟩;have G':wF hh k2 b sl sl2:=G;refine⟨fun h=>(by cases h),(bn _ _).2 ⟨⟨[((qb s[j]).length:Int)],[],[],[.nilIface],[],[]⟩,rfl,by intro u hu;simp at hu;subst hu;rfl,rfl,?_⟩⟩;rw[ag];refine⟨by simp[go_sem];omega,?_⟩;rw[ae,says_again,ei,em];refine⟨⟨j+1,v,b,sl2,k2,rfl,by omega,by rw[htk,<- List.cons_append];exact X2,hb',fun z hz2=>?_,fun c o hc=>G'.keep c o (fun e=>by rw[e,hb'] at hc;cases hc) (fun z hz2 e=>by rw[<- e,hz z hz2] at hc;cases hc) (hle c o hc)⟩,?_⟩
    . rcases G'.new z hz2 with ⟨y,hy,e⟩ | hn
      . rw[<- e];exact hz y hy
      . cases ho:h z.1 with
        | none=>rfl
        | some o=>rw[hle _ _ ho] at hn;cases hn
    . show (((s.length:Int) - ((j:Int)+1)).toNat)<M 0;omega
  . have hzz:¬ ((j:Int)<s.length):=by omega
    have htk:s.take j=s:=List.take_of_length_le (by omega);rw[htk] at X;have hl1:=OM s;rw[ak,if_neg (by simpa[go_sem] using hzz),ae,ax,if_pos (by rfl),sa2];refine⟨b,true,sl,_,34,rfl,X,by decide,by decide,by rw[List.length_cons];omega,fun sl2 k2 X2 hk2 hn2=>?_⟩;refine⟨fun h=>(by cases h),(bn _ _).2 ⟨⟨[],[],[],[.nilIface],[],[]⟩,rfl,by intro u hu;simp at hu;subst hu;rfl,rfl,?_⟩⟩;rw[ai,sa5];refine⟨b,true,sl2,_,rfl,X2,?_⟩;refine rR ⟨[],[],[_],[],[],[]⟩ rfl af rfl ?_;rw[aj,ep];refine⟨h,fun c o hc=>?_,hφ⟩;have hk3:k2 c=some o:=hk2 c o (fun e=>by rw[e,hb'] at hc;cases hc) (fun z hz2 e=>by rw[<- e,hz z hz2] at hc;cases hc) (hle c o hc);show (k2.drop sl2) c=some o;unfold Hp.drop;cases hsl:sl2.a with
    | none=>exact hk3
    | some z=>
      have:z.1≠c:=by
       intro e;rcases hn2 z hsl with ⟨y,hy,e2⟩ | hn
       . rw[<- e,<- e2,hz y hy] at hc;cases hc
       . have hn':hh z.1=none:=hn;rw[e,hle c o hc] at hn';cases hn'
      show (k2.del z.1) c=some o;unfold Hp.del;rw[if_neg (fun e=>this e.symm)];exact hk3
end
section
attribute [local go_sem] aY aX aA ak ax aF aT aJ aW dN gV eQ au says_again bT
def NF:Fm:=(.O (.pt 0 0) 1 [(.sl (.x 0))] ⟨0,0,0,0,1,0⟩
 (.O (.pt 0 1) 1 [.J 0] ⟨1,0,0,0,0,0⟩
 (.Z 0
 (.Z 0
 (.Z 0
 (.Z 0
 (.N (.X (.x 0) (.x 0))
 (.O (.el (.x 0) (.x 0) 5 0) 5 [.U 1,.J 2,.J 3,.J 4,(.s (.x 0))] ⟨4,0,1,0,0,0⟩
 (.ret (.p (.K 1 2 3 4 0)))))))))))
theorem UE:aU ⟨true,[]⟩ Tryz.prog (fun l=>([]:List bG).getD l ⟨[],[],[]⟩) Tryz.f44=NF:=by kernel_rfl
theorem Yy:az Tryz.prog .zero Tryz.f44.params.toList=some ([.P 0],⟨0,0,0,0,0,1⟩):=by kernel_rfl
def NC:Fm:=(.Z 0
 (.Z 0
 (.Z 0
 (.O (.pt 0 3) 1 [.J 0] ⟨1,0,0,0,0,0⟩
 (.ret (.p (.one (.b (.not (.eqI (.x 0) (.c 0)))))))))))
theorem UC:aU ⟨true,[]⟩ Tryz.prog (fun l=>([]:List bG).getD l ⟨[],[],[]⟩) Tryz.f46=NC:=by kernel_rfl
theorem Yw:az Tryz.prog .zero Tryz.f46.params.toList=some ([.P 0],⟨0,0,0,0,0,1⟩):=by kernel_rfl
def Gp:Fm:=(.C 46 [.P 0] (.p (.B 0)) ⟨0,1,0,0,0,0⟩
 (.ite (.not (.x 0))
 (.C 44 [.P 0] (.p (.K 1 2 3 4 0)) ⟨4,0,1,0,0,0⟩
 (.Z 0
 (.Z 0
 (.store (.pt 0 3) [.J 0,.J 2,.J 3]
 .E))))
 .E))
theorem Qd:aU ⟨true,[]⟩ Tryz.prog (fun l=>([]:List bG).getD l ⟨[],[],[]⟩) Tryz.f45=Gp:=by kernel_rfl
theorem VD:az Tryz.prog .zero Tryz.f45.params.toList=some ([.P 0,.J 0],⟨1,0,0,0,0,1⟩):=by kernel_rfl
def Uj:Fm:=(.C 44 [.P 0] (.p (.K 0 1 2 3 1)) ⟨4,0,1,0,0,0⟩
 (.C 46 [.P 0] (.p (.B 0)) ⟨0,1,0,0,0,0⟩
 (.ret (.p (.one (.b (.and (.and (.not (.x 0)) (.or (.eqI (.x 0) (.c 6)) (.eqI (.x 0) (.c 7)))) (.eqS (.x 1) (.x 0)))))))))
theorem XX:aU ⟨true,[]⟩ Tryz.prog (fun l=>([]:List bG).getD l ⟨[],[],[]⟩) Tryz.f69=Uj:=by kernel_rfl
theorem aak:az Tryz.prog .zero Tryz.f69.params.toList=some ([.P 0,.S 0],⟨0,0,1,0,0,1⟩):=by kernel_rfl
def Gu:Fm:=(.C 44 [.P 0] (.p (.K 0 1 2 3 0)) ⟨4,0,1,0,0,0⟩
 (.ite (.not (.eqI (.x 0) (.c 8)))
 (.Z 0
 (.Z 0
 (.O (.pt 0 1) 1 [.J 4] ⟨1,0,0,0,0,0⟩
 (.N (.R (.add (.x 4) (.c 1)))
 (.Z 0
 (.Z 0
 (.store (.pt 0 1) [(.i .i64 (.add (.x 4) (.c 1)))]
 (.ret (.p (.K 0 1 2 3 0))))))))))
 (.ret (.p (.K 0 1 2 3 0)))))
theorem Qj:aU ⟨true,[]⟩ Tryz.prog (fun l=>([]:List bG).getD l ⟨[],[],[]⟩) Tryz.f82=Gu:=by kernel_rfl
theorem VJ:az Tryz.prog .zero Tryz.f82.params.toList=some ([.P 0],⟨0,0,0,0,0,1⟩):=by kernel_rfl
def NH:Fm:=(.C 69 [.P 0,.S 0] (.p (.B 0)) ⟨0,1,0,0,0,0⟩
 (.ite (.not (.x 0))
 (.ret (.p (.one (.b (.c false)))))
 (.C 82 [.P 0] (.p (.K 0 1 2 3 1)) ⟨4,0,1,0,0,0⟩
 (.ret (.p (.one (.b (.c true))))))))
theorem UF:aU ⟨true,[]⟩ Tryz.prog (fun l=>([]:List bG).getD l ⟨[],[],[]⟩) Tryz.f111=NH:=by kernel_rfl
theorem Yz:az Tryz.prog .zero Tryz.f111.params.toList=some ([.P 0,.S 0],⟨0,0,1,0,0,1⟩):=by kernel_rfl
def Gt:Fm:=(.C 44 [.P 0] (.p (.K 0 1 2 3 1)) ⟨4,0,1,0,0,0⟩
 (.C 111 [.P 0,.S 0] (.p (.B 0)) ⟨0,1,0,0,0,0⟩
 (.ite (.not (.x 0))
 (.V 45 [.P 0,(.I (.c 5))]
 (.ret (.p (.K 0 1 2 3 1))))
 (.ret (.p (.K 0 1 2 3 1))))))
theorem Qh:aU ⟨true,[]⟩ Tryz.prog (fun l=>([]:List bG).getD l ⟨[],[],[]⟩) Tryz.f105=Gt:=by kernel_rfl
theorem VH:az Tryz.prog .zero Tryz.f105.params.toList=some ([.P 0,.S 0],⟨0,0,1,0,0,1⟩):=by kernel_rfl
def o6:Fm:=(.C 69 [.P 0,.S 0] (.p (.B 0)) ⟨0,1,0,0,0,0⟩
 (.need (.x 0) (.nnp 0)
 (.need (.x 0) (.nnp 0)
 (.load (.x 0) (.pt 0 2) 1 [.J 0] ⟨1,0,0,0,0,0⟩
 (.ite (.and (.x 0) (.eqI (.x 0) (.c 40)))
 (.V 45 [.P 0,(.I (.c 6))]
 (.C 105 [.P 0,.S 0] (.p (.K 1 2 3 4 1)) ⟨4,0,1,0,0,0⟩
 (.Z 0
 (.Z 0
 (.O (.pt 0 2) 1 [.J 5] ⟨1,0,0,0,0,0⟩
 (.N (.R (.add (.x 5) (.c 1)))
 (.Z 0
 (.Z 0
 (.store (.pt 0 2) [(.i .i64 (.add (.x 5) (.c 1)))]
 (.ret (.p (.K 1 2 3 4 1))))))))))))
 (.C 105 [.P 0,.S 0] (.p (.K 1 2 3 4 1)) ⟨4,0,1,0,0,0⟩
 (.Z 0
 (.Z 0
 (.O (.pt 0 2) 1 [.J 5] ⟨1,0,0,0,0,0⟩
 (.N (.R (.add (.x 5) (.c 1)))
 (.Z 0
 (.Z 0
 (.store (.pt 0 2) [(.i .i64 (.add (.x 5) (.c 1)))]
 (.ret (.p (.K 1 2 3 4 1))))))))))))))))
theorem Qi:aU ⟨true,[]⟩ Tryz.prog (fun l=>([]:List bG).getD l ⟨[],[],[]⟩) Tryz.f108=o6:=by kernel_rfl
theorem VI:az Tryz.prog .zero Tryz.f108.params.toList=some ([.P 0,.S 0],⟨0,0,1,0,0,1⟩):=by kernel_rfl
def Gx:Fm:=(.C 105 [.P 0,.S 0] (.p (.K 0 1 2 3 1)) ⟨4,0,1,0,0,0⟩
 (.Z 0
 (.Z 0
 (.O (.pt 0 2) 1 [.J 4] ⟨1,0,0,0,0,0⟩
 (.N (.R (.sub (.x 4) (.c 1)))
 (.Z 0
 (.Z 0
 (.store (.pt 0 2) [(.i .i64 (.sub (.x 4) (.c 1)))]
 .E))))))))
theorem Qm:aU ⟨true,[]⟩ Tryz.prog (fun l=>([]:List bG).getD l ⟨[],[],[]⟩) Tryz.f110=Gx:=by kernel_rfl
theorem VL:az Tryz.prog .zero Tryz.f110.params.toList=some ([.P 0,.S 0],⟨0,0,1,0,0,1⟩):=by kernel_rfl
def Gy:Fm:=(.C 44 [.P 0] (.p (.K 1 2 3 4 0)) ⟨4,0,1,0,0,0⟩
 (.C 46 [.P 0] (.p (.B 0)) ⟨0,1,0,0,0,0⟩
 (.ite (.or (.x 0) (.not (.eqI (.x 1) (.x 0))))
 (.V 45 [.P 0,(.I (.c 5))]
 (.ret (.p (.K 1 2 3 4 0))))
 (.C 82 [.P 0] (.p (.K 5 6 7 8 1)) ⟨4,0,1,0,0,0⟩
 (.ret (.p (.K 5 6 7 8 1)))))))
theorem Qn:aU ⟨true,[]⟩ Tryz.prog (fun l=>([]:List bG).getD l ⟨[],[],[]⟩) Tryz.f107=Gy:=by kernel_rfl
theorem VM:az Tryz.prog .zero Tryz.f107.params.toList=some ([.P 0,(.one (.U 0))],⟨1,0,0,0,0,1⟩):=by kernel_rfl
def PT:TypeId:=70
@[simp] theorem abK:(PT=1000003)=False:=eq_false (by decide)
def kY (sl:bM) (p:PS):List Value:=[sl.val,.int .i64 p.a,.int .i64 p.d,.int .i64 p.f.1,.int .i64 p.f.2.1,.int .i64 p.f.2.2]
def Tks (h:Hp) (sl:bM) (L:List Tok):Prop:=∃ tb c r,sl=⟨some (tb,0),L.length,c⟩/\h tb=some ⟨oM L++r,TK⟩
structure PW (h:Hp) (b:Nat) (sl:bM) (L:List Tok) (p:PS):Prop where
 blk:h b=some ⟨kY sl p,PT⟩
 tok:Tks h sl L
 lw:LW L
 len:L.length<=1000000
 at':p.a<L.length
 d0:-1000000000000<=p.d
 d1:p.d<=1000000000000
def dZ (t:Tok):Value:=gI t.k t.l t.c t.n t.x
theorem Xb:TK≠PT:=by decide
theorem Tks.keep {h k:Hp} {sl:bM} {L:List Tok} (ht:Tks h sl L) (hk:∀ c o,o.ty=TK->h c=some o->k c=some o):Tks k sl L:=by
 obtain⟨tb,c,r,h1,h2⟩:=ht;exact⟨tb,c,r,h1,hk _ _ rfl h2⟩
theorem PW.set {h:Hp} {b:Nat} {sl:bM} {L:List Tok} {p q:PS} (W:PW h b sl L p) (ha:q.a<L.length) (h0:-1000000000000<=q.d) (h1:q.d<=1000000000000):PW (h.set b ⟨kY sl q,PT⟩) b sl L q:=
 ⟨ay _ _ _,W.tok.keep fun c o ho hc=>by
  rw[bf]
  . exact hc
  . rintro rfl;rw[W.blk] at hc;cases hc;exact absurd ho.symm Xb,W.lw,W.len,ha,h0,h1⟩
theorem PW.mr {h:Hp} {b:Nat} {sl:bM} {L:List Tok} {p q:PS} {e:Int} (W:PW h b sl L p) (A:fC L p q e) (h0:-1000000000000<=p.d+e) (h1:p.d+e<=1000000000000):PW (h.set b ⟨kY sl q,PT⟩) b sl L q:=
 W.set (A.v W.at') (by rw[A.d];exact h0) (by rw[A.d];exact h1)
theorem PW.adv0 {h:Hp} {b:Nat} {sl:bM} {L:List Tok} {p q:PS} (W:PW h b sl L p) (A:fC L p q 0):PW (h.set b ⟨kY sl q,PT⟩) b sl L q:=
 W.mr A (by have:=W.d0;omega) (by have:=W.d1;omega)
theorem PW.self {h:Hp} {b:Nat} {sl:bM} {L:List Tok} {p:PS} (W:PW h b sl L p):h.set b ⟨kY sl p,PT⟩=h:=(set_self W.blk).symm
theorem abr {L:List Tok} {p:PS} (h:p.a<L.length):tk L p=L[p.a]:=by
 unfold tk;rw[List.getD_eq_getElem?_getD,List.getElem?_eq_getElem h];rfl
theorem Xc {h:Hp} {tb:Nat} {L:List Tok} {r:List Value} {T:TypeId} (hb:h tb=some ⟨oM L++r,T⟩) {p:PS} (hp:p.a<L.length):
 hread h (some (tb,p.a*5)) 5=some [.int .u8 (tk L p).k,.int .i64 (tk L p).l,.int .i64 (tk L p).c,.int .i64 (tk L p).n,.string (B (tk L p).x)]:=by
 have hlen:=xy L;rw[bI hb,if_pos (by simp only[List.length_append];omega)];simp only;have e:∀ (l:List Tok) (j:Nat),(oM l).drop (j*5)=oM (l.drop j):=by
  intro l
  induction l with
  | nil=>intro j;simp[oM]
  | cons a l ih=>
    intro j;cases j with
    | zero=>simp
    | succ j=>
      have:oM (a::l)=a.cs++oM l:=by simp[oM]
      rw[this,show (j+1)*5=a.cs.length+j*5 by simp[Tok.cs];omega,List.drop_append,List.drop_succ_cons,<- ih];simp
 rw[List.drop_append_of_le_length (by omega),e,List.drop_eq_getElem_cons hp,oM,List.flatMap_cons,abr hp];rfl
theorem ig {h:Hp} {b:Nat} {o:HO} (hb:h b=some o) (off:Nat) (cs:List Value):l9 h (some (b,off)) cs=if off+cs.length<=o.cs.length/\o.ty≠1000003 then some (h.set b ⟨o.cs.take off++cs++o.cs.drop (off+cs.length),o.ty⟩) else none:=by
 unfold l9;simp only[hb]
def gG:Ct Tryz.prog where
 f:=44
 spec:=fun args h φ=>∃ b sl L p,args=[.pointer (some ⟨b,0,none⟩)]/\PW h b sl L p/\φ (dZ (tk L p)) h
 ok:=by
  rintro args h φ w ⟨b,sl,L,p,rfl,W,hφ⟩ hH;refine aZ Tryz.func44 UE Yy [] φ bJ aV ⟨[],[],[],[],[],[some (b,0)],h,cu⟩ ⟨rfl,rfl,rfl,rfl,rfl,rfl⟩ af ?_ w hH rfl;generalize hE:(⟨aG _,_,_,_⟩:Env)=E;have ep:E.post=φ:=by rw[<- hE]
  clear hE;obtain⟨tb,c,r,rfl,ht⟩:=W.tok;have hb:=W.blk;have ha:=W.at';have hr:=Xc ht ha;have haz:(p.a:Int)<L.length:=by omega
  rw[<- ae];unfold NF
  iterate 9 (try simp only[ae];try simp[go_sem,bI hb,kY,haz,ep,hr])
  exact hφ
def jP:Ct Tryz.prog where
 f:=46
 spec:=fun args h φ=>∃ b sl L p,args=[.pointer (some ⟨b,0,none⟩)]/\PW h b sl L p/\φ (.bool p.bad) h
 ok:=by
  rintro args h φ w ⟨b,sl,L,p,rfl,W,hφ⟩ hH;refine aZ Tryz.func46 UC Yw [] φ bJ aV ⟨[],[],[],[],[],[some (b,0)],h,cu⟩ ⟨rfl,rfl,rfl,rfl,rfl,rfl⟩ af ?_ w hH rfl;generalize hE:(⟨aG _,_,_,_⟩:Env)=E;have ep:E.post=φ:=by rw[<- hE]
  clear hE;have hb:=W.blk;rw[<- ae];unfold NC
  iterate 9 (try simp only[ae];try simp[go_sem,bI hb,kY,ep])
  exact hφ
def iU:Ct Tryz.prog where
 f:=45
 spec:=fun args h φ=>∃ b sl L p e,args=[.pointer (some ⟨b,0,none⟩),.int .i64 e]/\PW h b sl L p/\φ (.tuple #[]) (h.set b ⟨kY sl (dG L e p),PT⟩)
 ok:=by
  rintro args h φ w ⟨b,sl,L,p,e,rfl,W,hφ⟩ hH;refine aZ Tryz.func45 Qd VD [jP,gG] φ bJ aV ⟨[e],[],[],[],[],[some (b,0)],h,cu⟩ ⟨rfl,rfl,rfl,rfl,rfl,rfl⟩ af ?_ w hH rfl;generalize hE:(⟨aG _,_,_,_⟩:Env)=E;have s1:E.spec 46=jP.spec:=by rw[<- hE];rfl
  have s2:E.spec 44=gG.spec:=by rw[<- hE];rfl
  have ep:E.post=φ:=by rw[<- hE]
  clear hE;have hb:=W.blk;unfold Gp;rw[ax,if_pos (by rfl),s1];refine⟨b,sl,L,p,rfl,W,?_⟩;unfold dG at hφ;cases hc:p.bad with
  | true=>
    rw[hc,if_pos rfl,W.self] at hφ;simp[go_sem]
    iterate 3 (try simp only[ae];try simp[go_sem,ep])
    exact hφ
  | false=>
    rw[hc,if_neg (by decide)] at hφ;simp[go_sem];simp only[ae];simp[go_sem];rw[ai,s2];refine⟨b,sl,L,p,rfl,W,?_⟩;simp[go_sem,dZ,gI]
    iterate 6 (try simp only[ae];try simp[go_sem,ig hb,kY,ep])
    exact hφ
def qH:Ct Tryz.prog where
 f:=69
 spec:=fun args h φ=>∃ b sl L p s,args=[.pointer (some ⟨b,0,none⟩),.string (B s)]/\PW h b sl L p/\φ (.bool (dw L s p)) h
 ok:=by
  rintro args h φ w ⟨b,sl,L,p,s,rfl,W,hφ⟩ hH;refine aZ Tryz.func69 XX aak [gG,jP] φ (bJ) (aV) ⟨[],[],[s],[],[],[some (b,0)],h,cu⟩ ⟨rfl,rfl,rfl,rfl,rfl,rfl⟩ af ?_ w hH rfl;generalize hE:(⟨aG _,_,_,_⟩:Env)=E;have sa6:E.spec 44=(gG).spec:=by rw[<- hE];rfl
  have sa7:E.spec 46=(jP).spec:=by rw[<- hE];rfl
  have ep:E.post=φ:=by rw[<- hE]
  clear hE;unfold Uj;rw[ax,if_pos (by rfl),sa6];refine⟨b,sl,L,p,rfl,W,?_⟩;simp[go_sem,dZ,gI];rw[ai,sa7];refine⟨b,sl,L,p,rfl,W,?_⟩;simp[go_sem];simp only[ae];simp[go_sem,ep];exact hφ
def jv:Ct Tryz.prog where
 f:=82
 spec:=fun args h φ=>∃ b sl L p,args=[.pointer (some ⟨b,0,none⟩)]/\PW h b sl L p/\φ (dZ (tk L p)) (h.set b ⟨kY sl (bK L p),PT⟩)
 ok:=by
  rintro args h φ w ⟨b,sl,L,p,rfl,W,hφ⟩ hH;refine aZ Tryz.func82 Qj VJ [gG] φ (bJ) (aV) ⟨[],[],[],[],[],[some (b,0)],h,cu⟩ ⟨rfl,rfl,rfl,rfl,rfl,rfl⟩ af ?_ w hH rfl;generalize hE:(⟨aG _,_,_,_⟩:Env)=E;have sa6:E.spec 44=(gG).spec:=by rw[<- hE];rfl
  have ep:E.post=φ:=by rw[<- hE]
  clear hE;unfold Gu;have hb:=W.blk;have hl:=W.len;have ha:=W.at';rw[ax,if_pos (by rfl),sa6];refine⟨b,sl,L,p,rfl,W,?_⟩;unfold bK at hφ;by_cases hc:(tk L p).k=8
  . rw[if_pos hc,W.self] at hφ;simp[go_sem,dZ,gI]
    iterate 3 (try simp only[ae];try simp[go_sem,ep,hc])
    simpa[dZ,gI,hc] using hφ
  . rw[if_neg hc] at hφ;simp[go_sem,dZ,gI]
    iterate 12 (try simp only[ae];try simp[go_sem,ep,hc,bI hb,ig hb,kY])
    exact⟨by omega,by omega,by simpa[dZ,gI,kY] using hφ⟩
def vK:Ct Tryz.prog where
 f:=111
 spec:=fun args h φ=>∃ b sl L p s,args=[.pointer (some ⟨b,0,none⟩),.string (B s)]/\PW h b sl L p/\(if dw L s p then φ (.bool true) (h.set b ⟨kY sl (bK L p),PT⟩) else φ (.bool false) h)
 ok:=by
  rintro args h φ w ⟨b,sl,L,p,s,rfl,W,hφ⟩ hH;refine aZ Tryz.func111 UF Yz [qH,jv] φ (bJ) (aV) ⟨[],[],[s],[],[],[some (b,0)],h,cu⟩ ⟨rfl,rfl,rfl,rfl,rfl,rfl⟩ af ?_ w hH rfl;generalize hE:(⟨aG _,_,_,_⟩:Env)=E;have sa8:E.spec 69=(qH).spec:=by rw[<- hE];rfl
  have sa9:E.spec 82=(jv).spec:=by rw[<- hE];rfl
  have ep:E.post=φ:=by rw[<- hE]
  clear hE;unfold NH;rw[ax,if_pos (by rfl),sa8];refine⟨b,sl,L,p,s,rfl,W,?_⟩;cases hc:dw L s p with
  | true=>
    rw[hc,if_pos rfl] at hφ;simp[go_sem];simp only[ae];simp[go_sem];rw[ai,sa9];refine⟨b,sl,L,p,rfl,W,?_⟩;simp[go_sem,dZ,gI];simp only[ae];simp[go_sem,ep];exact hφ
  | false=>
    rw[hc,if_neg (by decide)] at hφ;simp[go_sem]
    iterate 2 (try simp only[ae];try simp[go_sem,ep])
    exact hφ
def uD:Ct Tryz.prog where
 f:=105
 spec:=fun args h φ=>∃ b sl L p s,args=[.pointer (some ⟨b,0,none⟩),.string (B s)]/\PW h b sl L p/\φ (dZ (tk L p)) (h.set b ⟨kY sl (bZ L s p),PT⟩)
 ok:=by
  rintro args h φ w ⟨b,sl,L,p,s,rfl,W,hφ⟩ hH;refine aZ Tryz.func105 Qh VH [gG,vK,iU] φ (bJ) (aV) ⟨[],[],[s],[],[],[some (b,0)],h,cu⟩ ⟨rfl,rfl,rfl,rfl,rfl,rfl⟩ af ?_ w hH rfl;generalize hE:(⟨aG _,_,_,_⟩:Env)=E;have sa6:E.spec 44=(gG).spec:=by rw[<- hE];rfl
  have saa:E.spec 111=(vK).spec:=by rw[<- hE];rfl
  have sab:E.spec 45=(iU).spec:=by rw[<- hE];rfl
  have ep:E.post=φ:=by rw[<- hE]
  clear hE;unfold Gt;rw[ax,if_pos (by rfl),sa6];refine⟨b,sl,L,p,rfl,W,?_⟩;simp[go_sem,dZ,gI];rw[ai,saa];refine⟨b,sl,L,p,s,rfl,W,?_⟩;unfold bZ at hφ;cases hc:dw L s p with
  | true=>
    rw[hc,if_pos rfl] at hφ;rw[if_pos rfl];simp[go_sem]
    iterate 2 (try simp only[ae];try simp[go_sem,ep])
    simpa[dZ,gI] using hφ
  | false=>
    rw[hc,if_neg (by decide)] at hφ;rw[if_neg (by decide)];simp[go_sem];simp only[ae];simp[go_sem];rw[ai,sab];refine⟨b,sl,L,p,5,rfl,W,?_⟩;simp[go_sem];simp only[ae];simp[go_sem,ep];simpa[dZ,gI] using hφ
def jJ:Ct Tryz.prog where
 f:=108
 spec:=fun args h φ=>∃ b sl L p s,args=[.pointer (some ⟨b,0,none⟩),.string (B s)]/\PW h b sl L p/\φ (dZ (tk L p)) (h.set b ⟨kY sl (dP L s p),PT⟩)
 ok:=by
  rintro args h φ w ⟨b,sl,L,p,s,rfl,W,hφ⟩ hH;refine aZ Tryz.func108 Qi VI [qH,iU,uD] φ (bJ) (aV) ⟨[],[],[s],[],[],[some (b,0)],h,cu⟩ ⟨rfl,rfl,rfl,rfl,rfl,rfl⟩ af ?_ w hH rfl;generalize hE:(⟨aG _,_,_,_⟩:Env)=E;have sa8:E.spec 69=(qH).spec:=by rw[<- hE];rfl
  have sab:E.spec 45=(iU).spec:=by rw[<- hE];rfl
  have sac:E.spec 105=(uD).spec:=by rw[<- hE];rfl
  have ep:E.post=φ:=by rw[<- hE]
  clear hE;unfold o6;have hb:=W.blk;have d0:=W.d0;have d1:=W.d1;have hfin:∀ (p1:PS) (x:Int) (bb:Bool) (hh:Hp) (W1:PW hh b sl L p1) (hd:p1.d=p.d) (ht:tk L p1=tk L p) (hs:∀ o,hh.set b o=h.set b o) (he:p1=(if (dw L s p&&p.d==40)=true then dG L 6 p else p)),
   Then E (o6.k.k.k.k.e) ⟨[x],[bb],[s],[],[],[some (b,0)],hh,cu⟩:=by
   intro p1 x bb hh W1 hd ht hs he;have A:=bu W.lw s p1;have hAd:=A.d;have W2:=W1.adv0 A;have hb2:=W2.blk;unfold o6;simp only[Fm.k,Fm.e];rw[ai,sac];refine⟨b,sl,L,p1,s,rfl,W1,?_⟩;simp[go_sem,dZ,gI]
   iterate 12 (try simp only[ae];try simp[go_sem,ep,kY])
   refine⟨by omega,by omega,?_⟩;unfold dP at hφ;simp only[<- he] at hφ;rw[hs];simpa[dZ,gI,kY,ht] using hφ
  unfold o6 at hfin;simp only[Fm.k,Fm.e] at hfin;rw[ax,if_pos (by rfl),sa8];refine⟨b,sl,L,p,s,rfl,W,?_⟩;cases hc:dw L s p with
  | false=>
    simp[go_sem]
    iterate 4 (try simp only[ae];try simp[go_sem])
    exact hfin p 0 false h W rfl rfl (fun _=>rfl) (by rw[hc];rfl)
  | true=>
    simp[go_sem];by_cases h40:p.d=40
    . iterate 4 (try simp only[ae];try simp[go_sem,bI hb,kY,h40])
      rw[ai,sab];refine⟨b,sl,L,p,6,rfl,W,?_⟩;simp[go_sem];have A:=dO (L:=L) 6 p;have hne:tk L (dG L 6 p)=tk L p:=by unfold dG;split<;>rfl
      exact hfin (dG L 6 p) 40 true _ (W.adv0 A) (by rw[A.d];omega) hne (fun o=>by rw[eY]) (by rw[hc,h40];rfl)
    . iterate 4 (try simp only[ae];try simp[go_sem,bI hb,kY,h40])
      exact hfin p p.d true h W rfl rfl (fun _=>rfl) (by rw[hc];simp[h40])
def l7:Ct Tryz.prog where
 f:=110
 spec:=fun args h φ=>∃ b sl L p s,args=[.pointer (some ⟨b,0,none⟩),.string (B s)]/\PW h b sl L p/\φ (.tuple #[]) (h.set b ⟨kY sl (dQ L s p),PT⟩)
 ok:=by
  rintro args h φ w ⟨b,sl,L,p,s,rfl,W,hφ⟩ hH;refine aZ Tryz.func110 Qm VL [uD] φ (bJ) (aV) ⟨[],[],[s],[],[],[some (b,0)],h,cu⟩ ⟨rfl,rfl,rfl,rfl,rfl,rfl⟩ af ?_ w hH rfl;generalize hE:(⟨aG _,_,_,_⟩:Env)=E;have sac:E.spec 105=(uD).spec:=by rw[<- hE];rfl
  have ep:E.post=φ:=by rw[<- hE]
  clear hE;unfold Gx;have d0:=W.d0;have d1:=W.d1;have A:=bu W.lw s p;have hAd:=A.d;have hb2:=(W.adv0 A).blk;rw[ax,if_pos (by rfl),sac];refine⟨b,sl,L,p,s,rfl,W,?_⟩;simp[go_sem,dZ,gI]
  iterate 12 (try simp only[ae];try simp[go_sem,ep,kY])
  refine⟨by omega,by omega,?_⟩;simpa[dQ,kY] using hφ
def MN:Ct Tryz.prog where
 f:=107
 spec:=fun args h φ=>∃ b sl L p k,args=[.pointer (some ⟨b,0,none⟩),.int .u8 k]/\PW h b sl L p/\φ (dZ (tk L p)) (h.set b ⟨kY sl (iw L k p),PT⟩)
 ok:=by
  rintro args h φ w ⟨b,sl,L,p,k,rfl,W,hφ⟩ hH;refine aZ Tryz.func107 Qn VM [gG,jP,iU,jv] φ (bJ) (aV) ⟨[k],[],[],[],[],[some (b,0)],h,cu⟩ ⟨rfl,rfl,rfl,rfl,rfl,rfl⟩ af ?_ w hH rfl;generalize hE:(⟨aG _,_,_,_⟩:Env)=E;have sa6:E.spec 44=(gG).spec:=by rw[<- hE];rfl
  have sa7:E.spec 46=(jP).spec:=by rw[<- hE];rfl
  have sab:E.spec 45=(iU).spec:=by rw[<- hE];rfl
  have sa9:E.spec 82=(jv).spec:=by rw[<- hE];rfl
  have ep:E.post=φ:=by rw[<- hE]
  clear hE;unfold Gy;rw[ax,if_pos (by rfl),sa6];refine⟨b,sl,L,p,rfl,W,?_⟩;simp[go_sem,dZ,gI];rw[ai,sa7];refine⟨b,sl,L,p,rfl,W,?_⟩;unfold iw at hφ;by_cases hc:(p.bad||!((tk L p).k==k))=true
  . rw[if_pos hc] at hφ;simp[go_sem];rw[ah,if_pos (by simpa[go_sem] using hc)];rw[ai,sab];refine⟨b,sl,L,p,5,rfl,W,?_⟩;simp[go_sem];simp only[ae];simp[go_sem,ep];simpa[dZ,gI] using hφ
  . rw[if_neg hc] at hφ;simp[go_sem];rw[ah,if_neg (by simpa[go_sem] using hc)];rw[ai,sa9];refine⟨b,sl,L,p,rfl,W,?_⟩;simp[go_sem,dZ,gI];simp only[ae];simp[go_sem,ep];simpa[dZ,gI] using hφ
def Gh:Fm:=(.new [.U 0,.J 2,.J 3,(.i .i64 (.c 0)),(.i .i64 (.c 0)),(.s (.c [])),(.sl (.x 0))] 101
 (.ret (.p (.P 0))))
theorem P7:aU ⟨true,[15]⟩ Tryz.prog (fun l=>([]:List bG).getD l ⟨[],[],[]⟩) Tryz.f128=Gh:=by kernel_rfl
theorem Vx:az Tryz.prog .zero Tryz.f128.params.toList=some ([(.one (.U 0)),.K 1 2 3 4 0,.L 0],⟨5,0,1,0,1,0⟩):=by kernel_rfl
def Gi:Fm:=(.C 128 [(.one (.U 0)),.K 1 2 3 4 0,.L 0] (.p (.P 0)) ⟨0,0,0,0,0,1⟩
 (.Z 0
 (.Z 0
 (.Z 0
 (.store (.pt 0 5) [(.s (.x 1))]
 (.ret (.p (.P 0))))))))
theorem P8:aU ⟨true,[]⟩ Tryz.prog (fun l=>([]:List bG).getD l ⟨[],[],[]⟩) Tryz.f106=Gi:=by kernel_rfl
theorem Vy:az Tryz.prog .zero Tryz.f106.params.toList=some ([(.one (.U 0)),.K 1 2 3 4 0,.S 1,.L 0],⟨5,0,2,0,1,0⟩):=by kernel_rfl
def vN:Fm:=(.C 128 [(.one (.U 0)),.K 1 2 3 4 0,.L 0] (.p (.P 0)) ⟨0,0,0,0,0,1⟩
 (.Z 0
 (.Z 0
 (.Z 0
 (.store (.pt 0 4) [.J 5]
 (.ret (.p (.P 0))))))))
theorem DW:aU ⟨true,[]⟩ Tryz.prog (fun l=>([]:List bG).getD l ⟨[],[],[]⟩) Tryz.f83=vN:=by kernel_rfl
theorem IC:az Tryz.prog .zero Tryz.f83.params.toList=some ([(.one (.U 0)),.K 1 2 3 4 0,.J 5,.L 0],⟨6,0,1,0,1,0⟩):=by kernel_rfl
def IT:TypeId:=101
@[simp] theorem abJ:(IT=1000003)=False:=eq_false (by decide)
def PI:TypeId:=71
def df (v:Nat):Value:=.pointer (some ⟨v,0,none⟩)
def o8 (k l c n:Int) (x:List UInt8) (sl:bM):List Value:=[.int .u8 k,.int .i64 l,.int .i64 c,.int .i64 0,.int .i64 n,.string (B x),sl.val]
structure Kids (h:Hp) (sl:bM) (vs:List Nat):Prop where
 own:dC h sl (vs.map df) PI 1
 len:sl.n=vs.length
mutual
def It (h:Hp):Nat->Tr->Prop
 | v,.nd k l c n x ks=>∃ sl vs,h v=some ⟨o8 k l c n x sl,IT⟩/\Kids h sl vs/\Its h vs ks
def Its (h:Hp):List Nat->List Tr->Prop
 | [],[]=>True
 | v::vs,t::ts=>It h v t/\Its h vs ts
 | _,_=>False
end
theorem dC.le {h k:Hp} {s:bM} {xs:List Value} {ty:TypeId} {sz:Nat} (ho:dC h s xs ty sz) (hl:bY h k):dC k s xs ty sz:=by
 rcases ho with h0 | ⟨b,o,h1,h2,h3⟩
 . exact .inl h0
 . exact .inr ⟨b,o,h1,hl _ _ h2,h3⟩
theorem Kids.le {h k:Hp} {s:bM} {vs:List Nat} (hk:Kids h s vs) (hl:bY h k):Kids k s vs:=⟨hk.own.le hl,hk.len⟩
mutual
theorem It.le {h k:Hp} (hl:bY h k):∀ (v:Nat) (t:Tr),It h v t->It k v t
 | v,.nd _ _ _ _ _ ks,hi=>by
   obtain⟨sl,vs,h1,h2,h3⟩:=hi;exact⟨sl,vs,hl _ _ h1,h2.le hl,Its.le hl vs ks h3⟩
theorem Its.le {h k:Hp} (hl:bY h k):∀ (vs:List Nat) (ts:List Tr),Its h vs ts->Its k vs ts
 | [],[],_=>trivial
 | v::vs,t::ts,hi=>⟨It.le hl v t hi.1,Its.le hl vs ts hi.2⟩
 | [],_::_,hi=>hi
 | _::_,[],hi=>hi
end
theorem Its.app {h:Hp}:∀ {vs us:List Nat} {ts rs:List Tr},Its h vs ts->Its h us rs->Its h (vs++us) (ts++rs)
 | [],_,[],_,_,hb=>hb
 | _::_,_,_::_,_,ha,hb=>⟨ha.1,Its.app ha.2 hb⟩
 | [],_,_::_,_,ha,_=>by cases ha
 | _::_,_,[],_,ha,_=>by cases ha
theorem Its.len {h:Hp}:∀ {vs:List Nat} {ts:List Tr},Its h vs ts->vs.length=ts.length
 | [],[],_=>rfl
 | _::_,_::_,ha=>by simp[Its.len ha.2]
 | [],_::_,ha=>by cases ha
 | _::_,[],ha=>by cases ha
def Xr (g g':Hp):Hp:=fun c=>(g c).or (g' c)
theorem D5 (g g':Hp):bY g (Xr g g'):=fun c o h=>by unfold Xr;rw[h];rfl
theorem aaD {g g' k:Hp} (h:bY g k) (h':bY g' k):bY (Xr g g') k:=fun c o hc=>by
 unfold Xr at hc;cases hg:g c with
 | some x=>rw[hg] at hc;cases hc;exact h c _ hg
 | none=>rw[hg] at hc;exact h' c _ hc
theorem zO {g g':Hp} {c:Nat} (h:g c=none) (h':g' c=none):Xr g g' c=none:=by unfold Xr;rw[h,h'];rfl
def Zd (b:Nat) (h k:Hp):Prop:=∀ c o,c≠b->h c=some o->k c=some o
structure At (h:Hp) (b:Nat) (sl:bM) (L:List Tok) (p:PS) (k g:Hp):Prop where
 kp:Zd b h k
 pw:PW k b sl L p
 hb:h b≠none
 le:bY g k
 fr:∀ c,h c≠none->g c=none
theorem At.start {h:Hp} {b:Nat} {sl:bM} {L:List Tok} {p:PS} (W:PW h b sl L p):At h b sl L p h yU:=
 ⟨fun _ _ _ h=>h,W,by rw[W.blk];simp,fun _ _ h=>(by cases h),fun _ _=>rfl⟩
section
variable {h:Hp} {b:Nat} {sl:bM} {L:List Tok} {p:PS} {k g:Hp}
theorem At.gb (A:At h b sl L p k g):g b=none:=A.fr b A.hb
theorem At.move (A:At h b sl L p k g) {q:PS} (W:PW (k.set b ⟨kY sl q,PT⟩) b sl L q):At h b sl L q (k.set b ⟨kY sl q,PT⟩) g:=
 ⟨fun c o hc ho=>by rw[bf _ hc];exact A.kp c o hc ho,W,A.hb,fun c o hc=>by rw[bf _ (fun e=>by rw[e,A.gb] at hc;cases hc)];exact A.le c o hc,A.fr⟩
theorem At.dom (A:At h b sl L p k g) {c:Nat} (hc:h c≠none):k c≠none:=by
 by_cases e:c=b
 . rw[e,A.pw.blk];simp
 . cases ho:h c with
   | none=>exact absurd ho hc
   | some o=>rw[A.kp c o e ho];simp
theorem At.then (A:At h b sl L p k g) {q:PS} {k' g':Hp} (A':At k b sl L q k' g'):At h b sl L q k' (Xr g g'):=
 ⟨fun c o hc ho=>A'.kp c o hc (A.kp c o hc ho),A'.pw,A.hb,aaD (fun c o hc=>A'.kp c o (fun e=>by rw[e,A.gb] at hc;cases hc) (A.le c o hc)) A'.le,fun c hc=>zO (A.fr c hc) (A'.fr c (A.dom hc))⟩
theorem At.xW (A:At h b sl L p k g) {q:PS} {k' g':Hp} (A':At k b sl L q k' g'):bY g' (Xr g g'):=fun c o hc=>by
 unfold Xr;cases hg:g c with
 | none=>exact hc
 | some x=>have:=A'.fr c (by rw[A.le c x hg];simp);rw[this] at hc;cases hc
theorem At.new (A:At h b sl L p k g) {c:Nat} (hc:k c=none) (o:HO):At h b sl L p (k.set c o) (g.set c o):=by
 have hcb:c≠b:=fun e=>by rw[e,A.pw.blk] at hc;cases hc
 have hgc:g c=none:=by
  cases hg:g c with
  | none=>rfl
  | some x=>rw[A.le c x hg] at hc;cases hc
 refine⟨fun d x hd hx=>?_,⟨?_,A.pw.tok.keep fun d x _ hd=>?_,A.pw.lw,A.pw.len,A.pw.at',A.pw.d0,A.pw.d1⟩,A.hb,fun d x hd=>?_,fun d hd=>?_⟩
 . rw[bf _ (fun e=>A.dom (c:=d) (by rw[hx];simp) (by rw[e];exact hc))];exact A.kp d x hd hx
 . rw[bf _ hcb.symm];exact A.pw.blk
 . rw[bf _ (fun e=>by rw[e,hc] at hd;cases hd)];exact hd
 . by_cases e:d=c
   . rw[e,ay] at hd ⊢;exact hd
   . rw[bf _ e] at hd ⊢;exact A.le d x hd
 . rw[bf _ (fun e=>A.dom hd (by rw[e];exact hc))];exact A.fr d hd
theorem At.gnew (A:At h b sl L p k g) {c:Nat} (hc:k c=none) (o:HO):bY g (g.set c o):=by
 refine dU ?_ o;cases hg:g c with
 | none=>rfl
 | some x=>rw[A.le c x hg] at hc;cases hc
end
theorem H9 (h:Hp):Kids h ⟨none,0,0⟩ []:=⟨.inl ⟨rfl,rfl⟩,rfl⟩
theorem NZ (g:Hp) (c:Nat) (vs:List Nat) (hn:vs.length<=100):Kids (g.set c ⟨vs.map df,PI⟩) ⟨some (c,0),vs.length,vs.length⟩ vs:=
 ⟨.inr ⟨c,_,rfl,ay _ _ _,rfl,by simp,Nat.le_refl _,Nat.le_trans hn (by decide),by simp[List.take_of_length_le]⟩,rfl⟩
theorem NY {g:Hp} {v:Nat} {k l c n:Int} {x:List UInt8} {s:bM} {vs:List Nat} {ks:List Tr} (hv:g v=none) (hk:Kids g s vs) (hi:Its g vs ks):It (g.set v ⟨o8 k l c n x s,IT⟩) v (.nd k l c n x ks):=
 ⟨s,vs,ay _ _ _,hk.le (dU hv _),Its.le (dU hv _) _ _ hi⟩
def iH:Ct Tryz.prog where
 f:=128
 spec:=fun args h φ=>∃ k t s,args=[.int .u8 k,dZ t,s.val]/\∀ v,h v=none->φ (df v) (h.set v ⟨o8 k t.l t.c 0 [] s,IT⟩)
 ok:=by
  rintro args h φ w ⟨k,t,s,rfl,hφ⟩ hH;refine aZ Tryz.func128 P7 Vx [] φ (bJ) (aV) ⟨[k,t.k,t.l,t.c,t.n],[],[t.x],[],[s],[],h,cu⟩ ⟨rfl,rfl,rfl,rfl,rfl,rfl⟩ af ?_ w hH rfl;generalize hE:(⟨aG _,_,_,_⟩:Env)=E;have ep:E.post=φ:=by rw[<- hE]
  clear hE;unfold Gh;rw[dN];intro v hv;simp only[ae];simp[go_sem,ep];exact hφ v hv
def lF:Ct Tryz.prog where
 f:=106
 spec:=fun args h φ=>∃ k t x s,args=[.int .u8 k,dZ t,.string (B x),s.val]/\∀ v,h v=none->φ (df v) (h.set v ⟨o8 k t.l t.c 0 x s,IT⟩)
 ok:=by
  rintro args h φ w ⟨k,t,x,s,rfl,hφ⟩ hH;refine aZ Tryz.func106 P8 Vy [iH] φ (bJ) (aV) ⟨[k,t.k,t.l,t.c,t.n],[],[t.x,x],[],[s],[],h,cu⟩ ⟨rfl,rfl,rfl,rfl,rfl,rfl⟩ af ?_ w hH rfl;generalize hE:(⟨aG _,_,_,_⟩:Env)=E;have sad:E.spec 128=(iH).spec:=by rw[<- hE];rfl
  have ep:E.post=φ:=by rw[<- hE]
  clear hE;unfold Gi;rw[ax,if_pos (by rfl),sad];refine⟨k,t,s,rfl,fun v hv=>?_⟩;simp[go_sem,df];refine⟨some (v,0),rfl,?_⟩
  iterate 12 (try simp only[ae];try simp[go_sem,ep,o8,rG])
  exact hφ v hv
def jg:Ct Tryz.prog where
 f:=83
 spec:=fun args h φ=>∃ k t n s,args=[.int .u8 k,dZ t,.int .i64 n,s.val]/\∀ v,h v=none->φ (df v) (h.set v ⟨o8 k t.l t.c n [] s,IT⟩)
 ok:=by
  rintro args h φ w ⟨k,t,n,s,rfl,hφ⟩ hH;refine aZ Tryz.func83 DW IC [iH] φ (bJ) (aV) ⟨[k,t.k,t.l,t.c,t.n,n],[],[t.x],[],[s],[],h,cu⟩ ⟨rfl,rfl,rfl,rfl,rfl,rfl⟩ af ?_ w hH rfl;generalize hE:(⟨aG _,_,_,_⟩:Env)=E;have sad:E.spec 128=(iH).spec:=by rw[<- hE];rfl
  have ep:E.post=φ:=by rw[<- hE]
  clear hE;unfold vN;rw[ax,if_pos (by rfl),sad];refine⟨k,t,s,rfl,fun v hv=>?_⟩;simp[go_sem,df];refine⟨some (v,0),rfl,?_⟩
  iterate 12 (try simp only[ae];try simp[go_sem,ep,o8,rG])
  exact hφ v hv
def Gq:Fm:=(.C 44 [.P 0] (.p (.K 0 1 2 3 0)) ⟨4,0,1,0,0,0⟩
 (.C 46 [.P 0] (.p (.B 0)) ⟨0,1,0,0,0,0⟩
 (.ite (.x 0)
 (.V 45 [.P 0,(.I (.c 5))]
 (.C 128 [(.one (.i .u8 (.c 15))),.K 0 1 2 3 0,(.one (.sl .nil))] (.p (.P 1)) ⟨0,0,0,0,0,1⟩
 (.ret (.p (.P 1)))))
 (.C 111 [.P 0,.W [105,110,116]] (.p (.B 1)) ⟨0,1,0,0,0,0⟩
 (.ite (.x 1)
 (.C 128 [(.one (.i .u8 (.c 15))),.K 0 1 2 3 0,(.one (.sl .nil))] (.p (.P 1)) ⟨0,0,0,0,0,1⟩
 (.ret (.p (.P 1))))
 (.C 111 [.P 0,.W [98,111,111,108]] (.p (.B 2)) ⟨0,1,0,0,0,0⟩
 (.ite (.x 2)
 (.C 128 [(.one (.i .u8 (.c 16))),.K 0 1 2 3 0,(.one (.sl .nil))] (.p (.P 1)) ⟨0,0,0,0,0,1⟩
 (.ret (.p (.P 1))))
 (.C 111 [.P 0,.W [115,116,114]] (.p (.B 3)) ⟨0,1,0,0,0,0⟩
 (.ite (.x 3)
 (.C 128 [(.one (.i .u8 (.c 17))),.K 0 1 2 3 0,(.one (.sl .nil))] (.p (.P 1)) ⟨0,0,0,0,0,1⟩
 (.ret (.p (.P 1))))
 (.C 111 [.P 0,.W [99,111,109,112]] (.p (.B 4)) ⟨0,1,0,0,0,0⟩
 (.ite (.x 4)
 (.C 128 [(.one (.i .u8 (.c 18))),.K 0 1 2 3 0,(.one (.sl .nil))] (.p (.P 1)) ⟨0,0,0,0,0,1⟩
 (.ret (.p (.P 1))))
 (.ite (.eqI (.x 0) (.c 2))
 (.C 82 [.P 0] (.p (.K 4 5 6 7 1)) ⟨4,0,1,0,0,0⟩
 (.C 106 [(.one (.i .u8 (.c 19))),.K 0 1 2 3 0,.S 1,(.one (.sl .nil))] (.p (.P 1)) ⟨0,0,0,0,0,1⟩
 (.ret (.p (.P 1)))))
 (.C 69 [.P 0,.W [91]] (.p (.B 5)) ⟨0,1,0,0,0,0⟩
 (.ite (.x 5)
 (.C 108 [.P 0,.W [91]] (.p (.K 4 5 6 7 1)) ⟨4,0,1,0,0,0⟩
 (.C 112 [.P 0] (.p (.P 1)) ⟨0,0,0,0,0,1⟩
 (.V 110 [.P 0,.W [93]]
 (.mk [(.pt 1)] 71 1
 (.C 128 [(.one (.i .u8 (.c 20))),.K 0 1 2 3 0,.L 0] (.p (.P 2)) ⟨0,0,0,0,0,1⟩
 (.ret (.p (.P 2))))))))
 (.V 45 [.P 0,(.I (.c 5))]
 (.C 128 [(.one (.i .u8 (.c 15))),.K 0 1 2 3 0,(.one (.sl .nil))] (.p (.P 1)) ⟨0,0,0,0,0,1⟩
 (.ret (.p (.P 1)))))))))))))))))))
theorem Qe:aU ⟨true,[]⟩ Tryz.prog (fun l=>([]:List bG).getD l ⟨[],[],[]⟩) Tryz.f112=Gq:=by kernel_rfl
theorem VF:az Tryz.prog .zero Tryz.f112.params.toList=some ([.P 0],⟨0,0,0,0,0,1⟩):=by kernel_rfl
section
variable {h:Hp} {b:Nat} {sl:bM} {L:List Tok} {p:PS} {k g:Hp}
theorem At.fail (A:At h b sl L p k g) (e:Int):At h b sl L (dG L e p) (k.set b ⟨kY sl (dG L e p),PT⟩) g:=A.move (A.pw.adv0 (dO e p))
theorem At.pass (A:At h b sl L p k g):At h b sl L (bK L p) (k.set b ⟨kY sl (bK L p),PT⟩) g:=A.move (A.pw.adv0 (aP A.pw.lw p))
theorem At.must (A:At h b sl L p k g) (s:List UInt8):At h b sl L (bZ L s p) (k.set b ⟨kY sl (bZ L s p),PT⟩) g:=A.move (A.pw.adv0 (bu A.pw.lw s p))
theorem At.word (A:At h b sl L p k g) (n:Int):At h b sl L (iw L n p) (k.set b ⟨kY sl (iw L n p),PT⟩) g:=A.move (A.pw.adv0 (dL A.pw.lw n p))
theorem At.open (A:At h b sl L p k g) (s:List UInt8) (hd:p.d+1<=1000000000000):At h b sl L (dP L s p) (k.set b ⟨kY sl (dP L s p),PT⟩) g:=A.move (A.pw.mr (bC A.pw.lw s p) (by have:=A.pw.d0;omega) hd)
theorem At.shut (A:At h b sl L p k g) (s:List UInt8) (hd:-1000000000000<=p.d - 1):At h b sl L (dQ L s p) (k.set b ⟨kY sl (dQ L s p),PT⟩) g:=A.move (A.pw.mr (cO A.pw.lw s p) (by omega) (by have:=A.pw.d1;omega))
theorem At.none_g (A:At h b sl L p k g) {c:Nat} (hc:k c=none):g c=none:=by
 cases hg:g c with
 | none=>rfl
 | some x=>rw[A.le c x hg] at hc;cases hc
theorem At.leaf (A:At h b sl L p k g) {v:Nat} (hv:k v=none) (kk l c n:Int) (x:List UInt8):It (g.set v ⟨o8 kk l c n x ⟨none,0,0⟩,IT⟩) v (.nd kk l c n x []):=NY (A.none_g hv) (H9 _) trivial
theorem At.node (A:At h b sl L p k g) {kb v:Nat} {vs:List Nat} {ts:List Tr} (hkb:k kb=none) (hI:Its g vs ts) (hn:vs.length<=100) (hv:(k.set kb ⟨vs.map df,PI⟩) v=none) (kk l c n:Int) (x:List UInt8):
 At h b sl L p ((k.set kb ⟨vs.map df,PI⟩).set v ⟨o8 kk l c n x ⟨some (kb,0),vs.length,vs.length⟩,IT⟩) ((g.set kb ⟨vs.map df,PI⟩).set v ⟨o8 kk l c n x ⟨some (kb,0),vs.length,vs.length⟩,IT⟩)/\
 It ((g.set kb ⟨vs.map df,PI⟩).set v ⟨o8 kk l c n x ⟨some (kb,0),vs.length,vs.length⟩,IT⟩) v (.nd kk l c n x ts):=
 ⟨(A.new hkb _).new hv _,NY ((A.new hkb _).none_g hv) (NZ g kb vs hn) (Its.le (A.gnew hkb _) _ _ hI)⟩
end
def wI (f:List Tok->Nat->PS->Option (Tr×PS)) (n:Nat) (args:List Value) (h:Hp) (φ:Value->Hp->Prop):Prop:=
 ∃ m,m<=n/\∃ b sl L p t q,args=[df b]/\PW h b sl L p/\f L m p=some (t,q)/\p.d+m<=1000000000000/\∀ v k g,At h b sl L q k g->It g v t->φ (df v) k
theorem N7:∀ n args h φ w,wI jd n args h φ->Holds h w->Calls Tryz.prog 112 args.toArray w fun e w'=>∃ v k,e=.returned v/\φ v k/\Holds k w'/\Fr w.heap.size h k w w'
 | 0=>by
   rintro args h φ w ⟨m,hm,b,sl,L,p,t,q,rfl,W,hr,hd,hφ⟩ hH;obtain rfl:m=0:=by omega
   cases hr
 | n+1=>by
   have ih:=N7 n;rintro args h φ w ⟨m,hm,b,sl,L,p,t,q,rfl,W,hr,hd,hφ⟩ hH;cases m with
   | zero=>cases hr
   | succ m=>
   refine aZ Tryz.func112 Qe VF [gG,jP,iU,iH,vK,jv,lF,qH,jJ,l7,(⟨112,wI jd n,ih⟩:Ct Tryz.prog)] φ (bJ) (aV) ⟨[],[],[],[],[],[some (b,0)],h,cu⟩ ⟨rfl,rfl,rfl,rfl,rfl,rfl⟩ af ?_ w hH rfl;generalize hE:(⟨aG _,_,_,_⟩:Env)=E;have sa6:E.spec 44=(gG).spec:=by rw[<- hE];rfl
   have sa7:E.spec 46=(jP).spec:=by rw[<- hE];rfl
   have sab:E.spec 45=(iU).spec:=by rw[<- hE];rfl
   have sad:E.spec 128=(iH).spec:=by rw[<- hE];rfl
   have saa:E.spec 111=(vK).spec:=by rw[<- hE];rfl
   have sa9:E.spec 82=(jv).spec:=by rw[<- hE];rfl
   have sae:E.spec 106=(lF).spec:=by rw[<- hE];rfl
   have sa8:E.spec 69=(qH).spec:=by rw[<- hE];rfl
   have saf:E.spec 108=(jJ).spec:=by rw[<- hE];rfl
   have sag:E.spec 110=(l7).spec:=by rw[<- hE];rfl
   have sa0:E.spec 112=((⟨112,wI jd n,ih⟩:Ct Tryz.prog)).spec:=by rw[<- hE];rfl
   have ep:E.post=φ:=by rw[<- hE]
   clear hE;unfold Gq;have A:=At.start W;have fin:∀ {k:Int} {q':PS} {kk:Hp} {g:Hp} (A':At h b sl L q' kk g) (x:List UInt8),some (nd k (tk L p) 0 x [],q')=some (t,q)->∀ v,kk v=none->φ (df v) (kk.set v ⟨o8 k (tk L p).l (tk L p).c 0 x ⟨none,0,0⟩,IT⟩):=by
    intro k q' kk g A' x he v hv;cases he;exact hφ v _ _ (A'.new hv _) (A'.leaf hv ..)
   rw[ax,if_pos (by rfl),sa6];refine⟨b,sl,L,p,rfl,W,?_⟩;simp[go_sem,dZ,gI];rw[ai,sa7];refine⟨b,sl,L,p,rfl,W,?_⟩;rw[jd] at hr;cases c0:p.bad with
   | true=>
     rw[if_pos c0] at hr;have hf:dG L 5 p=p:=by unfold dG;rw[if_pos c0]
     simp[go_sem];simp only[ae];simp[go_sem];rw[ai,sab];refine⟨b,sl,L,p,5,rfl,W,?_⟩;simp[go_sem];rw[ai,sad];refine⟨15,tk L p,⟨none,0,0⟩,rfl,fun v hv=>?_⟩;simp[go_sem,df];refine⟨some (v,0),rfl,?_⟩;simp only[ae];simp[go_sem,ep];refine fin (A.fail 5) [] ?_ v hv;rw[hf];exact hr
   | false=>
   rw[c0,if_neg (by decide)] at hr;simp[go_sem];simp only[ae];simp[go_sem];have word:∀ (s:List UInt8) (k:Int),dw L s p=true->some (nd k (tk L p) 0 [] [],bK L p)=some (t,q)->∀ v,(h.set b ⟨kY sl (bK L p),PT⟩) v=none->φ (df v) ((h.set b ⟨kY sl (bK L p),PT⟩).set v ⟨o8 k (tk L p).l (tk L p).c 0 [] ⟨none,0,0⟩,IT⟩):=by
    intro s k hs he v hv;exact fin A.pass [] he v hv
   rw[ai,saa];refine⟨b,sl,L,p,SA,rfl,W,?_⟩;cases c1:dw L SA p with
   | true=>
     rw[if_pos c1] at hr;rw[if_pos rfl];simp[go_sem];simp only[ae];simp[go_sem];rw[ai,sad];refine⟨15,tk L p,⟨none,0,0⟩,rfl,fun v hv=>?_⟩;simp[go_sem,df];refine⟨some (v,0),rfl,?_⟩;simp only[ae];simp[go_sem,ep];exact word _ _ c1 hr v hv
   | false=>
   rw[c1,if_neg (by decide)] at hr;rw[if_neg (by decide)];simp[go_sem];simp only[ae];simp[go_sem];rw[ai,saa];refine⟨b,sl,L,p,CW,rfl,W,?_⟩;cases c2:dw L CW p with
   | true=>
     rw[if_pos c2] at hr;rw[if_pos rfl];simp[go_sem];simp only[ae];simp[go_sem];rw[ai,sad];refine⟨16,tk L p,⟨none,0,0⟩,rfl,fun v hv=>?_⟩;simp[go_sem,df];refine⟨some (v,0),rfl,?_⟩;simp only[ae];simp[go_sem,ep];exact word _ _ c2 hr v hv
   | false=>
   rw[c2,if_neg (by decide)] at hr;rw[if_neg (by decide)];simp[go_sem];simp only[ae];simp[go_sem];rw[ai,saa];refine⟨b,sl,L,p,SB,rfl,W,?_⟩;cases c3:dw L SB p with
   | true=>
     rw[if_pos c3] at hr;rw[if_pos rfl];simp[go_sem];simp only[ae];simp[go_sem];rw[ai,sad];refine⟨17,tk L p,⟨none,0,0⟩,rfl,fun v hv=>?_⟩;simp[go_sem,df];refine⟨some (v,0),rfl,?_⟩;simp only[ae];simp[go_sem,ep];exact word _ _ c3 hr v hv
   | false=>
   rw[c3,if_neg (by decide)] at hr;rw[if_neg (by decide)];simp[go_sem];simp only[ae];simp[go_sem];rw[ai,saa];refine⟨b,sl,L,p,CX,rfl,W,?_⟩;cases c4:dw L CX p with
   | true=>
     rw[if_pos c4] at hr;rw[if_pos rfl];simp[go_sem];simp only[ae];simp[go_sem];rw[ai,sad];refine⟨18,tk L p,⟨none,0,0⟩,rfl,fun v hv=>?_⟩;simp[go_sem,df];refine⟨some (v,0),rfl,?_⟩;simp only[ae];simp[go_sem,ep];exact word _ _ c4 hr v hv
   | false=>
   rw[c4,if_neg (by decide)] at hr;rw[if_neg (by decide)];simp[go_sem];simp only[ae];simp[go_sem];by_cases c5:(tk L p).k=2
   . rw[if_pos c5] at hr;rw[ah,if_pos (by simpa[go_sem] using c5)];rw[ai,sa9];refine⟨b,sl,L,p,rfl,W,?_⟩;simp[go_sem,dZ,gI];rw[ai,sae];refine⟨19,tk L p,(tk L p).x,⟨none,0,0⟩,rfl,fun v hv=>?_⟩;simp[go_sem,df];refine⟨some (v,0),rfl,?_⟩;simp only[ae];simp[go_sem,ep];exact fin A.pass _ hr v hv
   rw[if_neg c5] at hr;rw[ah,if_neg (by simpa[go_sem] using c5)];rw[ai,sa8];refine⟨b,sl,L,p,[91],rfl,W,?_⟩;cases c6:dw L [91] p with
   | true=>
     rw[if_pos c6] at hr;simp only[Option.map_eq_some_iff] at hr;obtain⟨⟨x,r⟩,h1,h2⟩:=hr;cases h2;simp[go_sem];simp only[ae];simp[go_sem];rw[ai,saf];refine⟨b,sl,L,p,[91],rfl,W,?_⟩;simp[go_sem,dZ,gI];have Ao:=bC W.lw [91] p;have hod:=Ao.d;have A1:=A.open [91] (by omega);rw[ai,sa0];refine⟨m,by omega,b,sl,L,dP L [91] p,x,r,rfl,A1.pw,h1,by omega,fun v k g A2 hI=>?_⟩;simp[go_sem,df];refine⟨some (v,0),rfl,?_⟩;have A3:=A1.then A2;have hkd:=(dK W.lw m _ h1).d;have hd0:=W.d0;rw[ai,sag];refine⟨b,sl,L,r,[93],rfl,A3.pw,?_⟩;have A4:=A3.shut [93] (by omega);simp[go_sem];rw[ae,aW];intro kb hkb;simp[go_sem];rw[ai,sad];refine⟨20,tk L p,⟨some (kb,0),1,1⟩,rfl,fun v' hv'=>?_⟩;simp[go_sem,df];refine⟨some (v',0),rfl,?_⟩;simp only[ae];simp[go_sem,ep];obtain⟨A5,I5⟩:=A4.node (vs:=[v]) (ts:=[x]) hkb ⟨It.le (A1.xW A2) _ _ hI,trivial⟩ (by simp) hv' 20 (tk L p).l (tk L p).c 0 [];exact hφ v' _ _ A5 I5
   | false=>
     rw[c6,if_neg (by decide)] at hr;simp[go_sem];simp only[ae];simp[go_sem];rw[ai,sab];refine⟨b,sl,L,p,5,rfl,W,?_⟩;simp[go_sem];rw[ai,sad];refine⟨15,tk L p,⟨none,0,0⟩,rfl,fun v hv=>?_⟩;simp[go_sem,df];refine⟨some (v,0),rfl,?_⟩;simp only[ae];simp[go_sem,ep];exact fin (A.fail 5) [] hr v hv
def Uk:Fm:=(.C 44 [.P 0] (.p (.K 1 2 3 4 0)) ⟨4,0,1,0,0,0⟩
 (.C 46 [.P 0] (.p (.B 0)) ⟨0,1,0,0,0,0⟩
 (.ite (.or (.x 0) (.not (.eqI (.x 1) (.c 7))))
 (.ret (.p (.I (.c 0))))
 (.ite (.eqS (.x 0) (.c [124,124]))
 (.ite (.not (.eqI (.c 1) (.x 0)))
 (.ret (.p (.I (.c 0))))
 (.ret (.p (.I (.c 15)))))
 (.ite (.eqS (.x 0) (.c [38,38]))
 (.ite (.not (.eqI (.c 2) (.x 0)))
 (.ret (.p (.I (.c 0))))
 (.ret (.p (.I (.c 14)))))
 (.ite (.eqS (.x 0) (.c [61,61]))
 (.ite (.not (.eqI (.c 3) (.x 0)))
 (.ret (.p (.I (.c 0))))
 (.ret (.p (.I (.c 6)))))
 (.ite (.eqS (.x 0) (.c [33,61]))
 (.ite (.not (.eqI (.c 3) (.x 0)))
 (.ret (.p (.I (.c 0))))
 (.ret (.p (.I (.c 7)))))
 (.ite (.eqS (.x 0) (.c [60]))
 (.ite (.not (.eqI (.c 4) (.x 0)))
 (.ret (.p (.I (.c 0))))
 (.ret (.p (.I (.c 8)))))
 (.ite (.eqS (.x 0) (.c [60,61]))
 (.ite (.not (.eqI (.c 4) (.x 0)))
 (.ret (.p (.I (.c 0))))
 (.ret (.p (.I (.c 9)))))
 (.ite (.eqS (.x 0) (.c [62]))
 (.ite (.not (.eqI (.c 4) (.x 0)))
 (.ret (.p (.I (.c 0))))
 (.ret (.p (.I (.c 10)))))
 (.ite (.eqS (.x 0) (.c [62,61]))
 (.ite (.not (.eqI (.c 4) (.x 0)))
 (.ret (.p (.I (.c 0))))
 (.ret (.p (.I (.c 11)))))
 (.ite (.eqS (.x 0) (.c [43]))
 (.ite (.not (.eqI (.c 5) (.x 0)))
 (.ret (.p (.I (.c 0))))
 (.ret (.p (.I (.c 1)))))
 (.ite (.eqS (.x 0) (.c [45]))
 (.ite (.not (.eqI (.c 5) (.x 0)))
 (.ret (.p (.I (.c 0))))
 (.ret (.p (.I (.c 2)))))
 (.ite (.eqS (.x 0) (.c [42]))
 (.ite (.not (.eqI (.c 6) (.x 0)))
 (.ret (.p (.I (.c 0))))
 (.ret (.p (.I (.c 3)))))
 (.ite (.eqS (.x 0) (.c [47]))
 (.ite (.not (.eqI (.c 6) (.x 0)))
 (.ret (.p (.I (.c 0))))
 (.ret (.p (.I (.c 4)))))
 (.ite (.eqS (.x 0) (.c [37]))
 (.ite (.not (.eqI (.c 6) (.x 0)))
 (.ret (.p (.I (.c 0))))
 (.ret (.p (.I (.c 5)))))
 (.ite (.not (.eqI (.c 0) (.x 0)))
 (.ret (.p (.I (.c 0))))
 (.ret (.p (.I (.c 0)))))))))))))))))))))
theorem XY:aU ⟨true,[]⟩ Tryz.prog (fun l=>([]:List bG).getD l ⟨[],[],[]⟩) Tryz.f81=Uk:=by kernel_rfl
theorem aal:az Tryz.prog .zero Tryz.f81.params.toList=some ([.P 0,.J 0],⟨1,0,0,0,0,1⟩):=by kernel_rfl
def Gn:Fm:=(.C 48 [.P 0,(.I (.c 1))] (.p (.P 1)) ⟨0,0,0,0,0,1⟩
 (.ret (.p (.P 1))))
theorem Qc:aU ⟨true,[]⟩ Tryz.prog (fun l=>([]:List bG).getD l ⟨[],[],[]⟩) Tryz.f22=Gn:=by kernel_rfl
theorem VC:az Tryz.prog .zero Tryz.f22.params.toList=some ([.P 0],⟨0,0,0,0,0,1⟩):=by kernel_rfl
def NE:Fm:=(.ite (.lt (.c 6) (.x 0))
 (.C 80 [.P 0] (.p (.P 1)) ⟨0,0,0,0,0,1⟩
 (.ret (.p (.P 1))))
 (.N (.R (.add (.x 0) (.c 1)))
 (.C 48 [.P 0,(.I (.add (.x 0) (.c 1)))] (.p (.P 1)) ⟨0,0,0,0,0,1⟩
 (.loop 0 ⟨[],[],[],[],[],[(.c .nilp),(.pt 1)]⟩
 (.C 81 [.P 0,.J 0] (.p (.J 1)) ⟨1,0,0,0,0,0⟩
 (.ite (.eqI (.x 1) (.c 0))
 (.ret (.p (.P 3)))
 (.C 82 [.P 0] (.p (.K 2 3 4 5 0)) ⟨4,0,1,0,0,0⟩
 (.N (.R (.add (.x 0) (.c 1)))
 (.C 48 [.P 0,(.I (.add (.x 0) (.c 1)))] (.p (.P 4)) ⟨0,0,0,0,0,1⟩
 (.mk [(.pt 3),(.pt 4)] 71 2
 (.C 83 [(.one (.i .u8 (.c 31))),.K 2 3 4 5 0,.J 1,.L 0] (.p (.P 5)) ⟨0,0,0,0,0,1⟩
 (.ite (.or (.eqI (.x 0) (.c 3)) (.eqI (.x 0) (.c 4)))
 (.ret (.p (.P 5)))
 (.again 0 ⟨1,0,0,0,0,2⟩ ⟨1,0,0,0,0,4⟩ ⟨[],[],[],[],[],[(.pt 2),(.pt 5)]⟩)))))))))))))
theorem UD:aU ⟨true,[]⟩ Tryz.prog (fun l=>([⟨[4,5],[16,17,18,6,19,20,21,22,23,7,24,25,26,27,28,29,30,31,32,33,34,35,36,37,38,39],[7]⟩]:List bG).getD l ⟨[],[],[]⟩) Tryz.f48=NE:=by kernel_rfl
theorem Yx:az Tryz.prog .zero Tryz.f48.params.toList=some ([.P 0,.J 0],⟨1,0,0,0,0,1⟩):=by kernel_rfl
def Ul:Fm:=(.C 69 [.P 0,.W [45]] (.p (.B 0)) ⟨0,1,0,0,0,0⟩
 (.ite (.x 0)
 (.C 44 [.P 0] (.p (.K 0 1 2 3 0)) ⟨4,0,1,0,0,0⟩
 (.C 108 [.P 0,.S 0] (.p (.K 4 5 6 7 1)) ⟨4,0,1,0,0,0⟩
 (.C 80 [.P 0] (.p (.P 1)) ⟨0,0,0,0,0,1⟩
 (.mk [(.pt 1)] 71 1
 (.C 83 [(.one (.i .u8 (.c 30))),.K 4 5 6 7 1,(.I (.c 12)),.L 0] (.p (.P 2)) ⟨0,0,0,0,0,1⟩
 (.Z 0
 (.Z 0
 (.O (.pt 0 2) 1 [.J 8] ⟨1,0,0,0,0,0⟩
 (.N (.R (.sub (.x 8) (.c 1)))
 (.Z 0
 (.Z 0
 (.store (.pt 0 2) [(.i .i64 (.sub (.x 8) (.c 1)))]
 (.ret (.p (.P 2)))))))))))))))
 (.C 69 [.P 0,.W [33]] (.p (.B 1)) ⟨0,1,0,0,0,0⟩
 (.ite (.x 1)
 (.C 44 [.P 0] (.p (.K 0 1 2 3 0)) ⟨4,0,1,0,0,0⟩
 (.C 108 [.P 0,.S 0] (.p (.K 4 5 6 7 1)) ⟨4,0,1,0,0,0⟩
 (.C 80 [.P 0] (.p (.P 1)) ⟨0,0,0,0,0,1⟩
 (.mk [(.pt 1)] 71 1
 (.C 83 [(.one (.i .u8 (.c 30))),.K 4 5 6 7 1,(.I (.c 13)),.L 0] (.p (.P 2)) ⟨0,0,0,0,0,1⟩
 (.Z 0
 (.Z 0
 (.O (.pt 0 2) 1 [.J 8] ⟨1,0,0,0,0,0⟩
 (.N (.R (.sub (.x 8) (.c 1)))
 (.Z 0
 (.Z 0
 (.store (.pt 0 2) [(.i .i64 (.sub (.x 8) (.c 1)))]
 (.ret (.p (.P 2)))))))))))))))
 (.C 127 [.P 0] (.p (.P 1)) ⟨0,0,0,0,0,1⟩
 (.ret (.p (.P 1))))))))
theorem XZ:aU ⟨true,[]⟩ Tryz.prog (fun l=>([]:List bG).getD l ⟨[],[],[]⟩) Tryz.f80=Ul:=by kernel_rfl
theorem aam:az Tryz.prog .zero Tryz.f80.params.toList=some ([.P 0],⟨0,0,0,0,0,1⟩):=by kernel_rfl
def oI (b N:Nat) (C:Ctx):Nat:=
 match C.h b with
 | some o=>match o.cs with
   | [_,.int _ a,_,.int _ e,_,_]=>if e=0 then ((N:Int) - a).toNat else 0
   | _=>0
 | none=>0
theorem kL {k:Hp} {b:Nat} {sl:bM} {L:List Tok} {p:PS} (W:PW k b sl L p) {C:Ctx} (hC:C.h=k):oI b L.length C=mu L p:=by
 unfold oI;rw[hC,W.blk];simp only[kY];unfold mu PS.bad;by_cases e:p.f.1=0
 . simp[e]
 . simp[e]
set_option maxHeartbeats 4000000 in
def aaO:Ct Tryz.prog where
 f:=81
 spec:=fun args h φ=>∃ b sl L p,∃ lvl:Nat,args=[df b,.int .i64 lvl]/\PW h b sl L p/\φ (.int .i64 (OD L lvl p)) h
 ok:=by
  rintro args h φ w ⟨b,sl,L,p,lvl,rfl,W,hφ⟩ hH;refine aZ Tryz.func81 XY aal [gG,jP] φ (bJ) (aV) ⟨[(lvl:Nat)],[],[],[],[],[some (b,0)],h,cu⟩ ⟨rfl,rfl,rfl,rfl,rfl,rfl⟩ af ?_ w hH rfl;generalize hE:(⟨aG _,_,_,_⟩:Env)=E;have sa6:E.spec 44=(gG).spec:=by rw[<- hE];rfl
  have sa7:E.spec 46=(jP).spec:=by rw[<- hE];rfl
  have ep:E.post=φ:=by rw[<- hE]
  clear hE;unfold Uk;rw[ax,if_pos (by rfl),sa6];refine⟨b,sl,L,p,rfl,W,?_⟩;simp[go_sem,dZ,gI];rw[ai,sa7];refine⟨b,sl,L,p,rfl,W,?_⟩;unfold OD at hφ;by_cases hc:(p.bad||!((tk L p).k==7))=true
  . rw[if_pos hc] at hφ;simp[go_sem];rw[ah,if_pos (by simpa[go_sem] using hc)];simp only[ae];simp[go_sem,ep];exact hφ
  rw[if_neg hc] at hφ;simp[go_sem];rw[ah,if_neg (by simpa[go_sem] using hc)];clear hc;generalize (tk L p).x=x at hφ⊢;have fin:∀ (of v:Nat),φ (.int .i64 (if of=lvl then (v:Int) else 0)) h->Then E (.ite (.not (.eqI (.c of) (.x 0))) (.ret (.p (.I (.c 0)))) (.ret (.p (.I (.c v))))) ⟨[(lvl:Nat),(tk L p).k,(tk L p).l,(tk L p).c,(tk L p).n],[p.bad],[x],[],[],[some (b,0)],h,cu⟩:=by
   intro of v hv;by_cases e:of=lvl
   . rw[if_pos e] at hv;rw[ah,if_neg (by simp[go_sem,e])];simp only[ae];simp[go_sem,ep];exact hv
   . rw[if_neg e] at hv;rw[ah,if_pos (by simp[go_sem];omega)];simp only[ae];simp[go_sem,ep];exact hv
  have next:∀ (s:List UInt8) (l:List Nat) (of v:Nat) (K:Fm) (T:Int×Nat),(l.map UInt8.ofNat=s)->φ (.int .i64 (if (if x=s then ((v:Int),of) else T).2=lvl then (if x=s then ((v:Int),of) else T).1 else 0)) h->
   (φ (.int .i64 (if T.2=lvl then T.1 else 0)) h->Then E K ⟨[(lvl:Nat),(tk L p).k,(tk L p).l,(tk L p).c,(tk L p).n],[p.bad],[x],[],[],[some (b,0)],h,cu⟩)->
   Then E (.ite (.eqS (.x 0) (.c l)) (.ite (.not (.eqI (.c of) (.x 0))) (.ret (.p (.I (.c 0)))) (.ret (.p (.I (.c v))))) K) ⟨[(lvl:Nat),(tk L p).k,(tk L p).l,(tk L p).c,(tk L p).n],[p.bad],[x],[],[],[some (b,0)],h,cu⟩:=by
   intro s l of v K T hl hv hK;by_cases e:x=s
   . simp only[if_pos e] at hv;rw[ah,if_pos (by simp[go_sem];rw[e,<- hl])];exact fin of v hv
   . simp only[if_neg e] at hv;rw[ah,if_neg (by simp[go_sem];rw[hl];exact e)];exact hK hv
  unfold OA at hφ;refine next [124,124] [124,124] 1 15 _ _ rfl hφ fun hφ=>?_
  refine next [38,38] [38,38] 2 14 _ _ rfl hφ fun hφ=>?_
  refine next [61,61] [61,61] 3 6 _ _ rfl hφ fun hφ=>?_
  refine next [33,61] [33,61] 3 7 _ _ rfl hφ fun hφ=>?_
  refine next [60] [60] 4 8 _ _ rfl hφ fun hφ=>?_
  refine next [60,61] [60,61] 4 9 _ _ rfl hφ fun hφ=>?_
  refine next [62] [62] 4 10 _ _ rfl hφ fun hφ=>?_
  refine next [62,61] [62,61] 4 11 _ _ rfl hφ fun hφ=>?_
  refine next [43] [43] 5 1 _ _ rfl hφ fun hφ=>?_
  refine next [45] [45] 5 2 _ _ rfl hφ fun hφ=>?_
  refine next [42] [42] 6 3 _ _ rfl hφ fun hφ=>?_
  refine next [47] [47] 6 4 _ _ rfl hφ fun hφ=>?_
  refine next [37] [37] 6 5 _ _ rfl hφ fun hφ=>?_
  exact fin 0 0 hφ
def ZB (n:Nat) (args:List Value) (h:Hp) (φ:Value->Hp->Prop):Prop:=
 ∃ m,m<=n/\∃ b sl L p t q,∃ lvl:Nat,args=[df b,.int .i64 lvl]/\lvl<=7/\PW h b sl L p/\iE L m lvl p=some (t,q)/\p.d+m<=1000000000000/\∀ v k g,At h b sl L q k g->It g v t->φ (df v) k
def ET (n:Nat):Prop:=∀ args h φ w,ZB n args h φ->Holds h w->Calls Tryz.prog 48 args.toArray w fun e w'=>∃ v k,e=.returned v/\φ v k/\Holds k w'/\Fr w.heap.size h k w w'
def SS (n:Nat):Prop:=∀ args h φ w,wI ER n args h φ->Holds h w->Calls Tryz.prog 80 args.toArray w fun e w'=>∃ v k,e=.returned v/\φ v k/\Holds k w'/\Fr w.heap.size h k w w'
def Es (L:List Tok) (n:Nat) (p:PS):Option (Tr×PS):=(lN L n p).bind fun r=>jR L n r.1 r.2
def Jf (n:Nat):Prop:=∀ args h φ w,wI Es n args h φ->Holds h w->Calls Tryz.prog 127 args.toArray w fun e w'=>∃ v k,e=.returned v/\φ v k/\Holds k w'/\Fr w.heap.size h k w w'
def Eo (L:List Tok) (n:Nat) (p:PS):Option (Tr×PS):=iE L n 1 p
def rf (n:Nat):Prop:=∀ args h φ w,wI Eo n args h φ->Holds h w->Calls Tryz.prog 22 args.toArray w fun e w'=>∃ v k,e=.returned v/\φ v k/\Holds k w'/\Fr w.heap.size h k w w'
def CZ (n:Nat):Prop:=∀ args h φ w,wI lN n args h φ->Holds h w->Calls Tryz.prog 145 args.toArray w fun e w'=>∃ v k,e=.returned v/\φ v k/\Holds k w'/\Fr w.heap.size h k w w'
def MH {n:Nat} (H:ET n):Ct Tryz.prog:=⟨48,ZB n,H⟩
def XB {n:Nat} (H:SS n):Ct Tryz.prog:=⟨80,wI ER n,H⟩
def TJ {n:Nat} (H:Jf n):Ct Tryz.prog:=⟨127,wI Es n,H⟩
def lZ {n:Nat} (H:rf n):Ct Tryz.prog:=⟨22,wI Eo n,H⟩
def Tv {n:Nat} (H:CZ n):Ct Tryz.prog:=⟨145,wI lN n,H⟩
theorem Nr {n:Nat} (H:ET n):rf n:=by
 rintro args h φ w ⟨m,hm,b,sl,L,p,t,q,rfl,W,hr,hd,hφ⟩ hH;refine aZ Tryz.func22 Qc VC [MH H] φ (bJ) (aV) ⟨[],[],[],[],[],[some (b,0)],h,cu⟩ ⟨rfl,rfl,rfl,rfl,rfl,rfl⟩ af ?_ w hH rfl;generalize hE:(⟨aG _,_,_,_⟩:Env)=E;have sah:E.spec 48=(MH H).spec:=by rw[<- hE];rfl
 have ep:E.post=φ:=by rw[<- hE]
 clear hE;unfold Gn;rw[ax,if_pos (by rfl),sah];refine⟨m,hm,b,sl,L,p,t,q,1,rfl,by omega,W,hr,hd,fun v k g A hI=>?_⟩;simp[go_sem,df];refine⟨some (v,0),rfl,?_⟩;simp only[ae];simp[go_sem,ep];exact hφ v k g A hI
set_option maxHeartbeats 4000000 in
theorem abt {n:Nat} (HU:SS n) (HP:Jf n):SS (n+1):=by
 rintro args h φ w ⟨m,hm,b,sl,L,p,t,q,rfl,W,hr,hd,hφ⟩ hH;cases m with
 | zero=>cases hr
 | succ m=>
 refine aZ Tryz.func80 XZ aam [qH,gG,jJ,jg,XB HU,TJ HP] φ (bJ) (aV) ⟨[],[],[],[],[],[some (b,0)],h,cu⟩ ⟨rfl,rfl,rfl,rfl,rfl,rfl⟩ af ?_ w hH rfl;generalize hE:(⟨aG _,_,_,_⟩:Env)=E;have sa8:E.spec 69=(qH).spec:=by rw[<- hE];rfl
 have sa6:E.spec 44=(gG).spec:=by rw[<- hE];rfl
 have saf:E.spec 108=(jJ).spec:=by rw[<- hE];rfl
 have sai:E.spec 83=(jg).spec:=by rw[<- hE];rfl
 have saj:E.spec 80=(XB HU).spec:=by rw[<- hE];rfl
 have sak:E.spec 127=(TJ HP).spec:=by rw[<- hE];rfl
 have ep:E.post=φ:=by rw[<- hE]
 clear hE;unfold Ul;have A:=At.start W;have hd0:=W.d0;rw[ER] at hr;have oJ:∀ (s:List UInt8) (n':Int) (bs:List Bool),dw L s p=true->(ER L m (dP L (tk L p).x p)).map (fun r=>(nd 30 (tk L p) n' [] [r.1],{ r.2 with d:=r.2.d - 1 }))=some (t,q)->
  ∀ (cc:Nat),((cc:Nat):Int)=n'->∀ C:Ctx,C=⟨[],bs,[],[],[],[some (b,0)],h,cu⟩->Then E (Fm.C 44 [.P 0] (.p (.K 0 1 2 3 0)) ⟨4,0,1,0,0,0⟩
 (.C 108 [.P 0,.S 0] (.p (.K 4 5 6 7 1)) ⟨4,0,1,0,0,0⟩
 (.C 80 [.P 0] (.p (.P 1)) ⟨0,0,0,0,0,1⟩
 (.mk [(.pt 1)] PI 1
 (.C 83 [(.one (.i .u8 (.c 30))),.K 4 5 6 7 1,(.I (.c cc)),.L 0] (.p (.P 2)) ⟨0,0,0,0,0,1⟩
 (.Z 0
 (.Z 0
 (.O (.pt 0 2) 1 [.J 8] ⟨1,0,0,0,0,0⟩
 (.N (.R (.sub (.x 8) (.c 1)))
 (.Z 0
 (.Z 0
 (.store (.pt 0 2) [(.i .i64 (.sub (.x 8) (.c 1)))]
 (.ret (.p (.P 2))))))))))))))) C:=by
  intro s n' bs hs hr cc hcc C hC;subst hC;simp only[Option.map_eq_some_iff] at hr;obtain⟨⟨x,r⟩,h1,h2⟩:=hr;cases h2;rw[ai,sa6];refine⟨b,sl,L,p,rfl,W,?_⟩;simp[go_sem,dZ,gI];rw[ai,saf];refine⟨b,sl,L,p,(tk L p).x,rfl,W,?_⟩;simp[go_sem,dZ,gI];have hod:=(bC W.lw (tk L p).x p).d;have A1:=A.open (tk L p).x (by omega);rw[ai,saj];refine⟨m,by omega,b,sl,L,_,x,r,rfl,A1.pw,h1,by omega,fun v k g A2 hI=>?_⟩;simp[go_sem,df];refine⟨some (v,0),rfl,?_⟩;have A3:=A1.then A2;have hkd:=((lg W.lw m).2.2.1 _ _ _ h1).d;rw[ae,aW];intro kb hkb;simp[go_sem];rw[ai,sai];refine⟨30,tk L p,n',⟨some (kb,0),1,1⟩,by rw[<- hcc];rfl,fun v' hv'=>?_⟩;simp[go_sem,df];refine⟨some (v',0),rfl,?_⟩;obtain⟨A5,I5⟩:=A3.node (vs:=[v]) (ts:=[x]) hkb ⟨It.le (A1.xW A2) _ _ hI,trivial⟩ (by simp) hv' 30 (tk L p).l (tk L p).c n' [];have h50:=A5.pw.d0;have h51:=A5.pw.d1;have hb5':((Hp.set k kb ⟨[Value.pointer (some ⟨v,0,none⟩)],PI⟩).set v' ⟨o8 30 (tk L p).l (tk L p).c n' [] ⟨some (kb,0),1,1⟩,IT⟩) b=some ⟨kY sl r,PT⟩:=A5.pw.blk
  iterate 12 (try simp only[ae];try simp[go_sem,ep,bI hb5',ig hb5',kY])
  refine⟨by omega,by omega,?_⟩;exact hφ v' _ _ (A5.move (A5.pw.set (q:={ r with d:=r.d - 1 }) A5.pw.at' (by simp only;omega) (by simp only;omega))) I5
 rw[ax,if_pos (by rfl),sa8];refine⟨b,sl,L,p,[45],rfl,W,?_⟩;cases c1:dw L [45] p with
 | true=>
   rw[if_pos c1] at hr;simp[go_sem];rw[ah,if_pos (by simp[go_sem])];exact oJ _ 12 _ c1 hr 12 rfl _ rfl
 | false=>
 rw[c1,if_neg (by decide)] at hr;simp[go_sem];rw[ah,if_neg (by simp[go_sem])];rw[ai,sa8];refine⟨b,sl,L,p,[33],rfl,W,?_⟩;cases c2:dw L [33] p with
 | true=>
   rw[if_pos c2] at hr;simp[go_sem];rw[ah,if_pos (by simp[go_sem])];exact oJ _ 13 _ c2 hr 13 rfl _ rfl
 | false=>
 rw[c2,if_neg (by decide)] at hr;simp[go_sem];rw[ah,if_neg (by simp[go_sem])];rw[ai,sak];refine⟨m,by omega,b,sl,L,p,t,q,rfl,W,hr,by omega,fun v k g A hI=>?_⟩;simp[go_sem,df];refine⟨some (v,0),rfl,?_⟩;simp only[ae];simp[go_sem,ep];exact hφ v k g A hI
def Tj (h:Hp) (b:Nat) (sl:bM) (L:List Tok) (t:Tr) (q:PS) (lvl n:Nat):Nat->Ctx->Prop:=fun _ C=>
 ∃ x0 x1 v x p1 k1 g1 m1,C=⟨[(lvl:Nat)],[],[],[],[],[some (b,0),x0,x1,some (v,0)],k1,cu⟩/\At h b sl L p1 k1 g1/\It g1 v x/\m1<=n/\lQ L m1 lvl x p1=some (t,q)/\p1.d+m1<=1000000000000
set_option maxHeartbeats 4000000 in
theorem ZQ {n:Nat} (HB:ET n) (HU:SS n):ET (n+1):=by
 rintro args h φ w ⟨m,hm,b,sl,L,p,t,q,lvl,rfl,hl7,W,hr,hd,hφ⟩ hH;cases m with
 | zero=>cases hr
 | succ m=>
 refine aZ Tryz.func48 UD Yx [aaO,jv,jg,MH HB,XB HU] φ (Tj h b sl L t q lvl n) (fun _=>oI b L.length) ⟨[(lvl:Nat)],[],[],[],[],[some (b,0)],h,cu⟩ ⟨rfl,rfl,rfl,rfl,rfl,rfl⟩ af ?_ w hH rfl;generalize hE:(⟨aG _,_,_,_⟩:Env)=E;have sal:E.spec 81=(aaO).spec:=by rw[<- hE];rfl
 have sa9:E.spec 82=(jv).spec:=by rw[<- hE];rfl
 have sai:E.spec 83=(jg).spec:=by rw[<- hE];rfl
 have sah:E.spec 48=(MH HB).spec:=by rw[<- hE];rfl
 have saj:E.spec 80=(XB HU).spec:=by rw[<- hE];rfl
 have ep:E.post=φ:=by rw[<- hE]
 have ei:E.inv=(Tj h b sl L t q lvl n):=by rw[<- hE]
 have em:E.meas=(fun _=>oI b L.length):=by rw[<- hE]
 clear hE;unfold NE;have A:=At.start W;rw[iE] at hr;by_cases c6:6<lvl
 . rw[if_pos c6] at hr;rw[ak,if_pos (by simp[go_sem];omega)];rw[ai,saj];refine⟨m,by omega,b,sl,L,p,t,q,rfl,W,hr,by omega,fun v k g A hI=>?_⟩;simp[go_sem,df];refine⟨some (v,0),rfl,?_⟩;simp only[ae];simp[go_sem,ep];exact hφ v k g A hI
 rw[if_neg c6] at hr;simp only[Option.bind_eq_some_iff] at hr;obtain⟨⟨x,r⟩,h1,h2⟩:=hr;rw[ak,if_neg (by simp[go_sem];omega)];rw[ag];refine⟨by simp[go_sem];omega,?_⟩;rw[ai,sah];refine⟨m,by omega,b,sl,L,p,x,r,lvl+1,rfl,by omega,W,h1,by omega,fun v k g A1 hI=>?_⟩;simp[go_sem,df];refine⟨some (v,0),rfl,?_⟩;have hrd:=((lg W.lw m).1 _ _ _ _ h1).d;rw[ae];refine bH ?_ ?_
 . rw[ei];exact⟨some (v,0),none,v,x,r,k,g,m,rfl,A1,hI,by omega,h2,by dsimp only at *;omega⟩
 . rw[ei,em];rintro i' bb ss v' ll pp hh0 M ⟨x0,x1,v,x,p1,k1,g1,m1,hC,A1,hI,hm1,hb1,hd1⟩ hM;cases hC;have hM:M 0=mu L p1:=hM.trans (kL A1.pw rfl);clear h1 h2;cases m1 with
   | zero=>cases hb1
   | succ m1=>
   rw[lQ] at hb1;rw[ax,if_pos (by rfl),sal];refine⟨b,sl,L,p1,lvl,rfl,A1.pw,?_⟩;simp[go_sem];by_cases c0:OD L lvl p1=0
   . rw[if_pos c0] at hb1;cases hb1;rw[ah,if_pos (by simp[go_sem,c0])];simp only[ae];simp[go_sem,ep];exact hφ v _ _ A1 hI
   rw[if_neg c0] at hb1;simp only[Option.bind_eq_some_iff] at hb1;obtain⟨⟨y,r1⟩,h3,h4⟩:=hb1;rw[ah,if_neg (by simp[go_sem,c0])];rw[ai,sa9];refine⟨b,sl,L,p1,rfl,A1.pw,?_⟩;simp[go_sem,dZ,gI];have A2:=A1.pass;have hpd:=(aP W.lw p1).d;rw[ag];refine⟨by simp[go_sem];omega,?_⟩;rw[ai,sah];refine⟨m1,by omega,b,sl,L,_,y,r1,lvl+1,rfl,by omega,A2.pw,h3,by omega,fun v2 k2 g2 A3 hI2=>?_⟩;simp[go_sem,df];refine⟨some (v2,0),rfl,?_⟩;have A4:=A2.then A3;have Ad:=(lg W.lw m1).1 _ _ _ _ h3;have hrd1:=Ad.d;rw[ae,aW];intro kb hkb;simp[go_sem];rw[ai,sai];refine⟨31,tk L p1,OD L lvl p1,⟨some (kb,0),2,2⟩,rfl,fun v3 hv3=>?_⟩;simp[go_sem,df];refine⟨some (v3,0),rfl,?_⟩;obtain⟨A5,I5⟩:=A4.node (vs:=[v,v2]) (ts:=[x,y]) hkb ⟨It.le (D5 _ _) _ _ hI,It.le (A2.xW A3) _ _ hI2,trivial⟩ (by simp) hv3 31 (tk L p1).l (tk L p1).c (OD L lvl p1) [];by_cases c34:lvl=3\/lvl=4
   . rw[if_pos c34] at h4;cases h4;rw[ah,if_pos (by simp[go_sem];omega)];simp only[ae];simp[go_sem,ep];exact hφ v3 _ _ A5 I5
   rw[if_neg c34] at h4;rw[ah,if_neg (by simp[go_sem];omega)];rw[ae,says_again,ei,em];refine⟨⟨_,_,v3,nd 31 (tk L p1) (OD L lvl p1) [] [x,y],r1,_,_,m1,rfl,A5,I5,by omega,h4,by omega⟩,?_⟩;show oI b L.length _<M 0;rw[hM];refine Nat.lt_of_le_of_lt (Nat.le_of_eq (kL A5.pw rfl)) ?_;have m1:=kM (gu (L:=L) (y9 c0).2) (y9 c0).1 A1.pw.at';have m2:=fD Ad;omega
end
section
attribute [local go_sem] aY aX aA ak ax aF aT aJ au says_again
section
variable {h:Hp} {b:Nat} {sl:bM} {L:List Tok} {p:PS} {k g:Hp}
theorem At.put (A:At h b sl L p k g) {c:Nat} (hc:k c=none) (o:HO):At h b sl L p (k.set c o) g:=by
 have B:=A.new hc o;exact⟨B.kp,B.pw,A.hb,fun d x hd=>by rw[bf _ (fun e=>by rw[e,A.none_g hc] at hd;cases hd)];exact A.le d x hd,A.fr⟩
end
structure Out (h:Hp) (b:Nat) (sl:bM) (L:List Tok) (p:PS) (k g:Hp) (o:Nat) (kk l c n:Int) (x:List UInt8) (s:bM) (vs:List Nat) (ts:List Tr):Prop where
 at':At h b sl L p k g
 blk:k o=some ⟨o8 kk l c n x s,IT⟩
 ho:h o=none
 go:g o=none
 kids:Kids k s vs
 hs:∀ z,s.a=some z->h z.1=none/\g z.1=none
 its:Its g vs ts
theorem aaW:IT≠PT:=by decide
theorem aa6:PI≠PT:=by decide
theorem aaV:IT≠PI:=by decide
theorem aaX:IT≠TK:=by decide
theorem aa7:PI≠TK:=by decide
theorem Kids.blk {h:Hp} {s:bM} {vs:List Nat} (K:Kids h s vs) {z:Nat×Nat} (hz:s.a=some z):∃ cs,h z.1=some ⟨cs,PI⟩:=by
 rcases K.own with ⟨h1,_⟩ | ⟨c,o,h1,h2,h3,_⟩
 . rw[h1] at hz;cases hz
 . rw[h1] at hz;cases hz;obtain⟨cs,ty⟩:=o;simp only at h3;subst h3;exact⟨cs,h2⟩
theorem Kids.keep {h k:Hp} {s:bM} {vs:List Nat} (K:Kids h s vs) (hk:∀ z cs,s.a=some z->h z.1=some ⟨cs,PI⟩->k z.1=some ⟨cs,PI⟩):Kids k s vs:=by
 refine⟨?_,K.len⟩;rcases K.own with h0 | ⟨c,o,h1,h2,h3,h4⟩
 . exact .inl h0
 . obtain⟨cs,ty⟩:=o;simp only at h3;subst h3;exact .inr ⟨c,_,h1,hk _ cs h1 h2,rfl,h4⟩
section
variable {h:Hp} {b:Nat} {sl:bM} {L:List Tok} {p:PS} {k g:Hp} {o:Nat} {kk l c n:Int} {x:List UInt8} {s:bM} {vs:List Nat} {ts:List Tr}
theorem At.h_none (A:At h b sl L p k g) {c:Nat} (hc:k c=none):h c=none:=by
 cases hh:h c with
 | none=>rfl
 | some y=>exact absurd hc (A.dom (by rw[hh];simp))
theorem Out.ob (O:Out h b sl L p k g o kk l c n x s vs ts):o≠b:=fun e=>by
 have:=O.blk;rw[e,O.at'.pw.blk] at this;exact aaW (HO.mk.inj (Option.some.inj this)).2.symm
theorem Out.zb (O:Out h b sl L p k g o kk l c n x s vs ts) {z:Nat×Nat} (hz:s.a=some z):z.1≠b:=fun e=>by
 obtain⟨cs,h1⟩:=O.kids.blk hz;rw[e,O.at'.pw.blk] at h1;exact aa6 (HO.mk.inj (Option.some.inj h1)).2.symm
theorem Out.zo (O:Out h b sl L p k g o kk l c n x s vs ts) {z:Nat×Nat} (hz:s.a=some z):z.1≠o:=fun e=>by
 obtain⟨cs,h1⟩:=O.kids.blk hz;rw[e,O.blk] at h1;exact aaV (HO.mk.inj (Option.some.inj h1)).2
theorem At.out (A:At h b sl L p k g) (ho:k o=none) (kk l c n:Int) (x:List UInt8):Out h b sl L p (k.set o ⟨o8 kk l c n x ⟨none,0,0⟩,IT⟩) g o kk l c n x ⟨none,0,0⟩ [] []:=
 ⟨A.put ho _,ay _ _ _,A.h_none ho,A.none_g ho,H9 _,fun _ hz=>(by cases hz),trivial⟩
theorem At.outs (A:At h b sl L p k g) {kb:Nat} (hkb:k kb=none) (hI:Its g vs ts) (hn:vs.length<=100) (ho:(k.set kb ⟨vs.map df,PI⟩) o=none) (kk l c n:Int) (x:List UInt8):
 Out h b sl L p ((k.set kb ⟨vs.map df,PI⟩).set o ⟨o8 kk l c n x ⟨some (kb,0),vs.length,vs.length⟩,IT⟩) g o kk l c n x ⟨some (kb,0),vs.length,vs.length⟩ vs ts:=by
 have B:=A.put hkb ⟨vs.map df,PI⟩;have hne:kb≠o:=fun e=>by rw[<- e,ay] at ho;cases ho
 refine⟨B.put ho _,ay _ _ _,B.h_none ho,B.none_g ho,(NZ k kb vs hn).keep fun z cs hz hc=>?_,fun z hz=>?_,hI⟩
 . cases hz;rw[bf _ hne];exact hc
 . cases hz;exact⟨A.h_none hkb,A.none_g hkb⟩
theorem Out.move (O:Out h b sl L p k g o kk l c n x s vs ts) {q:PS} (W:PW (k.set b ⟨kY sl q,PT⟩) b sl L q):Out h b sl L q (k.set b ⟨kY sl q,PT⟩) g o kk l c n x s vs ts:=
 ⟨O.at'.move W,by rw[bf _ O.ob];exact O.blk,O.ho,O.go,O.kids.keep fun z cs hz hc=>by rw[bf _ (O.zb hz)];exact hc,O.hs,O.its⟩
theorem Out.fail (O:Out h b sl L p k g o kk l c n x s vs ts) (e:Int):Out h b sl L (dG L e p) (k.set b ⟨kY sl (dG L e p),PT⟩) g o kk l c n x s vs ts:=O.move (O.at'.fail e).pw
theorem Out.pass (O:Out h b sl L p k g o kk l c n x s vs ts):Out h b sl L (bK L p) (k.set b ⟨kY sl (bK L p),PT⟩) g o kk l c n x s vs ts:=O.move O.at'.pass.pw
theorem Out.must (O:Out h b sl L p k g o kk l c n x s vs ts) (w:List UInt8):Out h b sl L (bZ L w p) (k.set b ⟨kY sl (bZ L w p),PT⟩) g o kk l c n x s vs ts:=O.move (O.at'.must w).pw
theorem Out.open (O:Out h b sl L p k g o kk l c n x s vs ts) (w:List UInt8) (hd:p.d+1<=1000000000000):Out h b sl L (dP L w p) (k.set b ⟨kY sl (dP L w p),PT⟩) g o kk l c n x s vs ts:=O.move (O.at'.open w hd).pw
theorem Out.shut (O:Out h b sl L p k g o kk l c n x s vs ts) (w:List UInt8) (hd:-1000000000000<=p.d - 1):Out h b sl L (dQ L w p) (k.set b ⟨kY sl (dQ L w p),PT⟩) g o kk l c n x s vs ts:=O.move (O.at'.shut w hd).pw
theorem Out.then (O:Out h b sl L p k g o kk l c n x s vs ts) {q:PS} {k' g':Hp} (A':At k b sl L q k' g'):Out h b sl L q k' (Xr g g') o kk l c n x s vs ts:=by
 refine⟨O.at'.then A',A'.kp _ _ O.ob O.blk,O.ho,zO O.go (A'.fr _ (by rw[O.blk];simp)),O.kids.keep fun z cs hz hc=>A'.kp _ _ (O.zb hz) hc,fun z hz=>?_,Its.le (D5 _ _) _ _ O.its⟩;obtain⟨cs,h1⟩:=O.kids.blk hz;exact⟨(O.hs z hz).1,zO (O.hs z hz).2 (A'.fr _ (by rw[h1];simp))⟩
theorem Out.done (O:Out h b sl L p k g o kk l c n x s vs ts):∃ g',At h b sl L p k g'/\It g' o (.nd kk l c n x ts):=by
 let g':Hp:=fun d=>if d=o\/s.a.map (·.1)=some d then k d else g d
 have gg:bY g g':=fun d y hd=>by
  show (if d=o\/s.a.map (·.1)=some d then k d else g d)=some y;split
  . exact O.at'.le d y hd
  . exact hd
 have go:g' o=some ⟨o8 kk l c n x s,IT⟩:=by
  show (if o=o\/_ then k o else g o)=_;rw[if_pos (.inl rfl)];exact O.blk
 refine⟨g',⟨O.at'.kp,O.at'.pw,O.at'.hb,fun d y hd=>?_,fun d hd=>?_⟩,s,vs,go,O.kids.keep fun z cs hz hc=>?_,Its.le gg _ _ O.its⟩
 . have hd':(if d=o\/s.a.map (·.1)=some d then k d else g d)=some y:=hd;split at hd'
   . exact hd'
   . exact O.at'.le d y hd'
 . show (if d=o\/s.a.map (·.1)=some d then k d else g d)=none;rw[if_neg]
   . exact O.at'.fr d hd
   . rintro (e | e)
     . rw[e,O.ho] at hd;exact hd rfl
     . cases hz:s.a with
       | none=>rw[hz] at e;cases e
       | some z=>
         rw[hz] at e;have e':z.1=d:=Option.some.inj e;rw[<- e',(O.hs z hz).1] at hd;exact hd rfl
 . show (if z.1=o\/s.a.map (·.1)=some z.1 then k z.1 else g z.1)=_;rw[if_pos (.inr (by rw[hz];rfl))];exact hc
theorem Ir {E:Env} {C:Ctx} {xe ye:LE} {f:Fm} {us:List Nat} {rs:List Tr} {kb:Nat} (O:Out h b sl L p k g o kk l c n x s vs ts) (hI:Its g us rs) (hn:vs.length<=2000000) (hu:us≠[]/\us.length<=100) (hkb:k kb=none) (hx:xe.den C=s) (hy:ye.den C=⟨some (kb,0),us.length,us.length⟩) (hC:C.h=k.set kb ⟨us.map df,PI⟩)
 (hk:∀ s' k'',k'' o=some ⟨o8 kk l c n x s,IT⟩->Out h b sl L p (k''.set o ⟨o8 kk l c n x s',IT⟩) g o kk l c n x s' (vs++us) (ts++rs)->f.says E ((C.push ⟨[],[],[],[],[s'],[]⟩).heap k'')):
 (Fm.app xe ye 1 8 PI f).says E C:=by
 have hlen:=O.kids.len;have hm:(2000101:Nat)<=maxLen:=by decide
 have zk:∀ z,s.a=some z->z.1≠kb:=fun z hz e=>by
  obtain⟨cs,h1⟩:=O.kids.blk hz;rw[e,hkb] at h1;cases h1
 rw[bT,hx,hy,hC];refine⟨vs.map df,us.map df,(O.kids.keep fun z cs hz hc=>by rw[bf _ (zk z hz)];exact hc).own,.inr ⟨by simp,?_⟩,fun u hu=>?_,?_,?_,fun s' k'' g1 g2 g3 g4=>?_⟩
 . rw[fG,if_pos (by simp)];simp[List.take_of_length_le]
 . obtain⟨y,_,rfl⟩:=List.mem_map.1 hu;rfl
 . show s.n+us.length<=maxLen;omega
 . show (s.n+us.length)*8<=_;omega
 have g2':s'.n=s.n+us.length:=g2;have keep:∀ d y,(∀ z,s.a=some z->z.1≠d)->k d=some y->k'' d=some y:=fun d y hz hd=>g4 d y hz (by rw[bf _ (fun e=>by rw[e,hkb] at hd;cases hd)];exact hd)
 have ko:k'' o=some ⟨o8 kk l c n x s,IT⟩:=keep o _ (fun z hz=>O.zo hz) O.blk;have zne:∀ z,s'.a=some z->z.1≠o/\h z.1=none/\g z.1=none:=fun z hz=>by
  rcases g3 z hz with ⟨y,hy,e⟩ | hn
  . rw[<- e];exact⟨O.zo hy,O.hs y hy⟩
  . have m1:z.1≠kb:=fun e=>by rw[e,ay] at hn;cases hn
    rw[bf _ m1] at hn;exact⟨fun e=>(by rw[e,O.blk] at hn;cases hn),O.at'.h_none hn,O.at'.none_g hn⟩
 refine hk s' k'' ko ⟨⟨fun d y hdb hd=>?_,⟨?_,O.at'.pw.tok.keep fun d y hty hd=>?_,O.at'.pw.lw,O.at'.pw.len,O.at'.pw.at',O.at'.pw.d0,O.at'.pw.d1⟩,O.at'.hb,fun d y hd=>?_,O.at'.fr⟩,ay _ _ _,O.ho,O.go,?_,fun z hz=>(zne z hz).2,Its.app O.its hI⟩
 . rw[bf _ (fun e=>by rw[e,O.ho] at hd;cases hd)];exact keep d y (fun z hz e=>by rw[<- e,(O.hs z hz).1] at hd;cases hd) (O.at'.kp d y hdb hd)
 . rw[bf _ O.ob.symm];exact keep b _ (fun z hz=>O.zb hz) O.at'.pw.blk
 . rw[bf _ (fun e=>by rw[e,O.blk] at hd;cases hd;exact aaX hty)];refine keep d y (fun z hz e=>?_) hd;obtain⟨cs,h1⟩:=O.kids.blk hz;rw[e,hd] at h1;cases h1;exact aa7 hty
 . rw[bf _ (fun e=>by rw[e,O.go] at hd;cases hd)];exact keep d y (fun z hz e=>by rw[<- e,(O.hs z hz).2] at hd;cases hd) (O.at'.le d y hd)
 . refine Kids.keep (h:=k'') ⟨by rw[List.map_append];exact g1,by rw[g2',hlen];simp⟩ fun z cs hz hc=>?_
   rw[bf _ (zne z hz).1];exact hc
theorem OC {E:Env} {C:Ctx} {xe ye:LE} {f:Fm} {v kb:Nat} {t:Tr} (O:Out h b sl L p k g o kk l c n x s vs ts) (hI:It g v t) (hn:vs.length<=2000000) (hkb:k kb=none) (hx:xe.den C=s) (hy:ye.den C=⟨some (kb,0),1,1⟩) (hC:C.h=k.set kb ⟨[df v],PI⟩)
 (hk:∀ s' k'',k'' o=some ⟨o8 kk l c n x s,IT⟩->Out h b sl L p (k''.set o ⟨o8 kk l c n x s',IT⟩) g o kk l c n x s' (vs++[v]) (ts++[t])->f.says E ((C.push ⟨[],[],[],[],[s'],[]⟩).heap k'')):
 (Fm.app xe ye 1 8 PI f).says E C:=Ir O (us:=[v]) (rs:=[t]) ⟨hI,trivial⟩ hn ⟨by simp,by simp⟩ hkb hx hy hC hk
theorem QN {k'':Hp} (hk4:k'' o=some ⟨o8 kk l c n x s,IT⟩) (s':bM):l9 k'' (some (o,6)) [s'.val]=some (k''.set o ⟨o8 kk l c n x s',IT⟩):=by
 simp[ig hk4,o8]
end
end
end Go.Proofs.YtllbpdllkkcajaaGreatDoor
