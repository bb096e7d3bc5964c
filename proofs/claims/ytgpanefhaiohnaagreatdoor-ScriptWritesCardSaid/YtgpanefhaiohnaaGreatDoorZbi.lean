/- hindcastlaw29: texts joined: PreA, TreM, ParH, ParJ, ParK, ParN, ParS, ParT, ParU, TreF, TreN, TreB, TreC, TreU, TreO, TreW, TreX, TreY, ScrRN, ScrR, ScrS, ScrT, ScrU, ScrV, ScrW, ScrX, ScrY, ScrQ, EvA, EvB, EvC. -/
import Derived.Test.YtgpanefhaiohnaaGreatDoorZbh
namespace Go.Proofs.YtgpanefhaiohnaaGreatDoor
open Go.RowKit
def Z5 (op:Int):List UInt8×Nat:=
 if op=15 then ([124,124],1) else if op=14 then ([38,38],2) else if op=6 then ([61,61],3) else if op=7 then ([33,61],3)
 else if op=8 then ([60],4) else if op=9 then ([60,61],4) else if op=10 then ([62],4) else if op=11 then ([62,61],4)
 else if op=1 then ([43],5) else if op=2 then ([45],5) else if op=3 then ([42],6) else if op=4 then ([47],6) else ([37],6)
def Tr.lv:Tr→Nat
 | .nd k _ _ n _ _=>if k=31 then (Z5 n).2 else if k=30 then 7 else 8
def qb (c:UInt8):List UInt8:=
 if c=34∨c=92 then [92,c] else if c=10 then [92,110] else if c=9 then [92,116]
 else if c.toNat<32∨126<c.toNat then [92,120,hxd (c.toNat / 16),hxd (c.toNat % 16)] else [c]
where hxd (n:Nat):UInt8:=if n<10 then UInt8.ofNat (48+n) else UInt8.ofNat (87+n)
def quo (x:List UInt8):List UInt8:=34::(x.flatMap qb++[34])
def brk (b:Bool) (s:List UInt8):List UInt8:=if b then 40::(s++[41]) else s
def ktx:Tr→List UInt8
 | .nd k _ _ _ x ks=>if k=15 then aak else if k=16 then aab else if k=17 then aam else if k=18 then aac else if k=19 then x else
   match ks with
   | t::_=>91::(ktx t++[93])
   | []=>[]
def lft (n:Nat):Nat:=if n=3∨n=4 then n+1 else n
mutual
def tx:Tr→List UInt8
 | .nd k _ _ n x ks=>
   if k=21 then txt n
   else if k=22 then txt n++[105]
   else if k=23 then quo x
   else if k=24 then (if n=1 then aae else Zh)
   else if k=25 then aal
   else if k=26 then x
   else if k=27 then x++(40::(txr ks++[41]))
   else if k=28 then (match ks with | a::b::_=>brk (decide (a.lv<8)) (tx a)++(91::(tx b++[93])) | _=>[])
   else if k=29 then (match ks with | a::_=>brk (decide (a.lv<8)) (tx a)++(46::x) | _=>[])
   else if k=30 then (match ks with | a::_=>(if n=12 then 45 else 33)::brk (decide (a.lv<7)) (tx a) | _=>[])
   else if k=31 then (match ks with | a::b::_=>brk (decide (a.lv<lft (Z5 n).2)) (tx a)++(32::((Z5 n).1++(32::brk (decide (b.lv<(Z5 n).2+1)) (tx b)))) | _=>[])
   else if k=32 then (match ks with | a::bs=>aad++(32::(ktx a++(40::(txr bs++[41])))) | _=>[])
   else []
def txr:List Tr→List UInt8
 | []=>[]
 | t::ts=>tx t++txs ts
def txs:List Tr→List UInt8
 | []=>[]
 | t::ts=>44::32::(tx t++txs ts)
end
section
variable (l c n:Int) (x:List UInt8)
end
def xG (x:List UInt8):Prop:=nZ (bt x 0)=1∧(∀ c∈x,inB c.toNat=true)∧iF x=false∧x.length≤1000000
def uD (x:List UInt8):Prop:=nZ (bt x 0)=2∧(∀ c∈x,inB c.toNat=true)∧x.length≤1000000
inductive Zv:Tr→Prop
 | word (k l c:Int) (h:15≤k∧k≤18):Zv (.nd k l c 0 [] [])
 | big (l c:Int) (x:List UInt8) (h:uD x):Zv (.nd 19 l c 0 x [])
 | list (l c:Int) (t:Tr) (h:Zv t):Zv (.nd 20 l c 0 [] [t])
mutual
inductive AV:Tr→Prop
 | int (l c n:Int) (h:0≤n∧n≤9223372036854775807):AV (.nd 21 l c n [] [])
 | comp (l c n:Int) (h:0≤n∧n≤8388607):AV (.nd 22 l c n [] [])
 | str (l c:Int) (x:List UInt8) (h:x.length≤1000000):AV (.nd 23 l c 0 x [])
 | bool (l c n:Int) (h:n=0∨n=1):AV (.nd 24 l c n [] [])
 | nil (l c:Int):AV (.nd 25 l c 0 [] [])
 | name (l c:Int) (x:List UInt8) (h:xG x):AV (.nd 26 l c 0 x [])
 | call (l c:Int) (x:List UInt8) (h:xG x) (ks:List Tr) (hk:F8 ks):AV (.nd 27 l c 0 x ks)
 | index (l c:Int) (a b:Tr) (ha:AV a) (hb:AV b):AV (.nd 28 l c 0 [] [a,b])
 | dot (l c:Int) (x:List UInt8) (h:xG x) (a:Tr) (ha:AV a):AV (.nd 29 l c 0 x [a])
 | un (l c n:Int) (h:n=12∨n=13) (a:Tr) (ha:AV a):AV (.nd 30 l c n [] [a])
 | bin (l c n:Int) (h:(1≤n∧n≤11)∨n=14∨n=15) (a b:Tr) (ha:AV a) (hb:AV b):AV (.nd 31 l c n [] [a,b])
 | make (l c l' c':Int) (x:List UInt8) (h:uD x):AV (.nd 32 l c 0 [] [.nd 19 l' c' 0 x []])
 | makes (l c l' c':Int) (t:Tr) (ht:Zv t) (b:Tr) (hb:AV b):AV (.nd 32 l c 0 [] [.nd 20 l' c' 0 [] [t],b])
inductive F8:List Tr→Prop
 | nil:F8 []
 | cons (t:Tr) (ts:List Tr) (h:AV t) (hs:F8 ts):F8 (t::ts)
end
mutual
def Tr.bare:Tr→Tr
 | .nd k _ _ n x ks=>.nd k 0 0 n x (XT ks)
def XT:List Tr→List Tr
 | []=>[]
 | t::ts=>t.bare::XT ts
end
end Go.Proofs.YtgpanefhaiohnaaGreatDoor
namespace Go.Proofs.YtgpanefhaiohnaaGreatDoor
open Go.RowKit
attribute [local go_sem] aZ aY ag ai ak aN au aC aj says_again BE.den IE.den SE.den LE.den AE.den CE.den PE.den VE.den KV.val dw.den dw.cnt iM dU iY allL Ctx.push Ctx.heap Ctx.cut Ctx.bare Ctx.mark Inc.blank List.getD_cons_zero List.getD_cons_succ List.cons_append List.nil_append List.append_nil List.map_cons List.map_nil List.replicate_zero List.replicate_succ aB bQ bu bG bn bY cO aU aT aV bF bD aF aO aH aA ax aS aI bW af and_assoc
def NJ:Ct Tryz.prog where
 f:=49
 spec:=fun args h φ=>∃ n,args=[.int .i64 n]∧-9223372036854775808≤n∧n≤9223372036854775807∧φ (.string (B (txt n))) h
 ok:=by
  rintro args h φ w ⟨n,rfl,h0,h1,hφ⟩ hH
  refine (Vr n h0 h1 w).mono ?_
  rintro e w' ⟨rfl,hb⟩
  exact⟨_,h,rfl,hφ,hH.below hb,Fr.of_below hb⟩
theorem YB {k:Hp} {w:World} {b:Nat} {s0 s1:bg} {used:Bool} (H:Holds k w) (hb:k b=some ⟨JR b used s0,BT⟩):Holds (k.set b ⟨JR b used s1,BT⟩) (w.setCell ⟨b,1,none⟩ s1.val)∧Fr w.heap.size k (k.set b ⟨JR b used s1,BT⟩) w (w.setCell ⟨b,1,none⟩ s1.val):=by
 have hw:=(H b _ hb).rw (show BT<1000000 by decide)
 refine⟨fun c o hc=>?_,⟨rfl,rfl,rfl,by simp[World.setCell],fun c hc hn=>zS (hn.ne hb (show BT<1000000 by decide)) _,fun c hc hn=>?_,fun c hc hn=>hn.set (hn.ne hb (show BT<1000000 by decide))⟩⟩
 · by_cases e:c=b
   · subst e
     rw[ax] at hc
     cases hc
     refine .of ?_ (.inl (show BT<1000000 by decide))
     simp[World.setCell,Array.getElem?_modify,hw,JR]
   · rw[bi _ e] at hc
     rw[zS e]
     exact H c o hc
 · rw[bi _ (fun e=>by rw[e,hb] at hn;cases hn)]
   exact hn
set_option maxHeartbeats 2000000 in
set_option maxRecDepth 100000 in
def Sj:Ct Tryz.prog where
 f:=23
 spec:=fun args h φ=>∃ b used sl l s,args=[.pointer (some ⟨b,0,none⟩),.string (B s)]∧VP h b used sl l∧l.length+s.length≤1000000000000∧
  ∀ sl' k,VP k b true sl' (l++s)→Rf h k b sl sl'→φ (.tuple #[.int .i64 s.length,.nilIface]) k
 ok:=by
  rintro args h φ w ⟨b,used,sl,l,s,rfl,X,hl,hφ⟩ hH
  obtain⟨i0,hi,hz0,hz1,hz2⟩:=info_parts (P:=Tryz.prog) (e:=5) (z:=.int .u8 0) (size:=1) (bytes:=1) (by kernel_rfl)
  go_enter Tryz.func23,Tryz.ntmps23
  have e1:∀ args w,(callFunc 47 args).run Tryz.prog w=.ok (.enter 47 args) w:=enters_of Tryz.func47 (by kernel_rfl) rfl
  go_wp2_with (go_at_fn 47;refine (GK.ok [.pointer (some ⟨b,0,none⟩)] h (fun v k=>v=.tuple #[]∧k=h.set b ⟨JR b true sl,BT⟩) w ⟨b,used,sl,rfl,X.at_,rfl,rfl⟩ hH).mono ?_)
  rintro e w1 ⟨v,k,rfl,⟨rfl,rfl⟩,hH1,hF1⟩
  have hown1:bJ (h.set b ⟨JR b true sl,BT⟩) sl (AY l) 5 1:=Fq X.own X.ne _
  have hb1:(h.set b ⟨JR b true sl,BT⟩) b=some ⟨JR b true sl,BT⟩:=ax _ _ _
  have c2:w1.cell? ⟨b,1,none⟩=some sl.val:=by rw[Lib.cell_of_heap ((hH1 _ _ hb1).rw (show BT<1000000 by decide))];rfl
  go_wp2_with (at_builtin;go_must (refine uA rfl _ _ 56 9 rfl hH1 5 i0 Tryz.underlying56 Tryz.underlying9 hi hz0 hz1 hz2 sl _ rfl hown1 (B s) rfl ?c3 (by decide) ?_))
  case c3=>rw[dJ,X.n];omega
  rintro s' h' w2 ⟨g1,g2,g3,g4,hH2,hF2,g5⟩
  have hb2:h' b=some ⟨JR b true sl,BT⟩:=g4 b _ X.ne hb1
  have d2:w2.cell? ⟨b,1,none⟩=some sl.val:=by rw[Lib.cell_of_heap ((hH2 _ _ hb2).rw (show BT<1000000 by decide))];rfl
  have f2:w2.frozen? ⟨b,1,none⟩=false:=Lib.frozen_of_heap ((hH2 _ _ hb2).rw (show BT<1000000 by decide)) 1
  obtain⟨hH3,hF3⟩:=YB (s1:=s') hH2 hb2
  rw[Nl,← show AY (l++s)=AY l++AY s by simp[AY]] at g1
  rw[dJ] at g2 g5
  have hne':∀ z,s'.a=some z→z.1≠b:=fun z hz=>by
   rcases g3 z hz with ⟨y,hy,e⟩ | hn
   · rw[← e];exact X.ne y hy
   · intro e;rw[e,hb1] at hn;cases hn
  have hsn:sl.n=l.length:=X.n
  have hP:VP (h'.set b ⟨JR b true s',BT⟩) b true s' (l++s):=by
   refine⟨ax _ _ _,Fq g1 hne' _,by rw[g2,hsn];simp,hne',fun ha=>?_,fun ha=>?_⟩
   · obtain⟨h0,h1⟩:=g5.1 ha
     rw[X.fit h0,List.eq_nil_of_length_eq_zero h1];rfl
   · intro e
     obtain⟨el,es⟩:=List.append_eq_nil_iff.1 e
     refine ha (g5.2 ⟨?_,by rw[es];rfl⟩)
     cases hc:sl.a with
     | none=>rfl
     | some q=>exact absurd el (X.pos (by rw[hc];simp))
  have hφ':=hφ s' _ hP ⟨fun c o hc hz ho=>by
   rw[bi _ hc]
   exact g4 c o hz (by rw[bi _ hc];exact ho),fun z hz=>by
   rcases g3 z hz with hy | hn
   · exact .inl hy
   · refine .inr ?_
     rw[bi _ (hne' z hz)] at hn
     exact hn⟩
  have hFr:=(hF1.trans hF2 hF1.size).trans hF3 (Nat.le_trans hF1.size hF2.size)
  obtain⟨sa,sn,sc⟩:=s'
  rw[hsn] at g2
  have g2':sn=l.length+s.length:=g2
  subst g2'
  clear g1 g2 g3 g4 g5
  simp only[bg.val] at hFr hH3 hφ'⊢
  go_wp2
  go_ret2
  refine⟨_,rfl,_,?_,hH3,hFr⟩
  simpa[dJ] using hφ'
end Go.Proofs.YtgpanefhaiohnaaGreatDoor
namespace Go.Proofs.YtgpanefhaiohnaaGreatDoor
open Go.RowKit
attribute [local go_sem] aZ aY ag ai ak aN au aC di jZ pq nY aj says_again fG BE.den IE.den SE.den LE.den AE.den CE.den PE.den VE.den KV.val dw.den dw.cnt iM dU iY allL Ctx.push Ctx.heap Ctx.cut Ctx.bare Ctx.mark Inc.blank List.getD_cons_zero List.getD_cons_succ List.cons_append List.nil_append List.append_nil List.map_cons List.map_nil List.replicate_zero List.replicate_succ aB bQ bu bG bn bY cO aU aT aV bF bD aF aO aH aA ax aS aI bW af and_assoc
def PT:TypeId:=245
def JV (sl:bg) (p:PS):List Value:=[sl.val,.int .i64 p.a,.int .i64 p.d,.int .i64 p.f.1,.int .i64 p.f.2.1,.int .i64 p.f.2.2]
def Tks (h:Hp) (sl:bg) (L:List Tok):Prop:=∃ tb c r,sl=⟨some (tb,0),L.length,c⟩∧h tb=some ⟨O9 L++r,TK⟩
structure PW (h:Hp) (b:Nat) (sl:bg) (L:List Tok) (p:PS):Prop where
 blk:h b=some ⟨JV sl p,PT⟩
 tok:Tks h sl L
 lw:LW L
 len:L.length≤1000000
 at':p.a<L.length
 d0:-1000000000000≤p.d
 d1:p.d≤1000000000000
theorem Vu:TK≠PT:=by decide
theorem Tks.keep {h k:Hp} {sl:bg} {L:List Tok} (ht:Tks h sl L) (hk:∀ c o,o.ty=TK→h c=some o→k c=some o):Tks k sl L:=by
 obtain⟨tb,c,r,h1,h2⟩:=ht
 exact⟨tb,c,r,h1,hk _ _ rfl h2⟩
theorem PW.set {h:Hp} {b:Nat} {sl:bg} {L:List Tok} {p q:PS} (W:PW h b sl L p) (ha:q.a<L.length) (h0:-1000000000000≤q.d) (h1:q.d≤1000000000000):PW (h.set b ⟨JV sl q,PT⟩) b sl L q:=
 ⟨ax _ _ _,W.tok.keep fun c o ho hc=>by
  rw[bi]
  · exact hc
  · rintro rfl;rw[W.blk] at hc;cases hc;exact absurd ho.symm Vu,W.lw,W.len,ha,h0,h1⟩
theorem PW.adv {h:Hp} {b:Nat} {sl:bg} {L:List Tok} {p q:PS} {e:Int} (W:PW h b sl L p) (A:AO L p q e) (h0:-1000000000000≤p.d+e) (h1:p.d+e≤1000000000000):PW (h.set b ⟨JV sl q,PT⟩) b sl L q:=
 W.set (A.v W.at') (by rw[A.d];exact h0) (by rw[A.d];exact h1)
theorem PW.Yz {h:Hp} {b:Nat} {sl:bg} {L:List Tok} {p q:PS} (W:PW h b sl L p) (A:AO L p q 0):PW (h.set b ⟨JV sl q,PT⟩) b sl L q:=
 W.adv A (by have:=W.d0;omega) (by have:=W.d1;omega)
theorem PW.self {h:Hp} {b:Nat} {sl:bg} {L:List Tok} {p:PS} (W:PW h b sl L p):h.set b ⟨JV sl p,PT⟩=h:=(set_self W.blk).symm
theorem Qk {h:Hp} {b:Nat} {o:HO} (hb:h b=some o) (off:Nat) (cs:List Value):jk h (some (b,off)) cs=if off+cs.length≤o.cs.length∧o.ty<1000000 then some (h.set b ⟨o.cs.take off++cs++o.cs.drop (off+cs.length),o.ty⟩) else none:=by
 unfold jk;simp only[hb]
end Go.Proofs.YtgpanefhaiohnaaGreatDoor
namespace Go.Proofs.YtgpanefhaiohnaaGreatDoor
open Go.RowKit
attribute [local go_sem] aZ aY ag ai ak aN au aC di jZ pq nY aj says_again fG BE.den IE.den SE.den LE.den AE.den CE.den PE.den VE.den KV.val dw.den dw.cnt iM dU iY allL Ctx.push Ctx.heap Ctx.cut Ctx.bare Ctx.mark Inc.blank List.getD_cons_zero List.getD_cons_succ List.cons_append List.nil_append List.append_nil List.map_cons List.map_nil List.replicate_zero List.replicate_succ aB bQ bu bG bn bY cO aU aT aV bF bD aF aO aH aA ax aS aI bW af and_assoc
def IT:TypeId:=254
@[simp] theorem it_rw:(IT<1000000)=True:=eq_true (by decide)
def PI:TypeId:=246
def lD (v:Nat):Value:=.pointer (some ⟨v,0,none⟩)
def Bd (k l c n:Int) (x:List UInt8) (sl:bg):List Value:=[.int .u8 k,.int .i64 l,.int .i64 c,.int .i64 0,.int .i64 n,.string (B x),sl.val]
structure Kids (h:Hp) (sl:bg) (vs:List Nat):Prop where
 own:bJ h sl (vs.map lD) PI 1
 len:sl.n=vs.length
mutual
def It (h:Hp):Nat→Tr→Prop
 | v,.nd k l c n x ks=>∃ sl vs,h v=some ⟨Bd k l c n x sl,IT⟩∧Kids h sl vs∧Its h vs ks
def Its (h:Hp):List Nat→List Tr→Prop
 | [],[]=>True
 | v::vs,t::ts=>It h v t∧Its h vs ts
 | _,_=>False
end
theorem bJ.le {h k:Hp} {s:bg} {xs:List Value} {ty:TypeId} {sz:Nat} (ho:bJ h s xs ty sz) (hl:dm h k):bJ k s xs ty sz:=by
 rcases ho with h0 | ⟨b,o,h1,h2,h3⟩
 · exact .inl h0
 · exact .inr ⟨b,o,h1,hl _ _ h2,h3⟩
theorem Kids.le {h k:Hp} {s:bg} {vs:List Nat} (hk:Kids h s vs) (hl:dm h k):Kids k s vs:=⟨hk.own.le hl,hk.len⟩
mutual
theorem It.le {h k:Hp} (hl:dm h k):∀ (v:Nat) (t:Tr),It h v t→It k v t
 | v,.nd _ _ _ _ _ ks,hi=>by
   obtain⟨sl,vs,h1,h2,h3⟩:=hi
   exact⟨sl,vs,hl _ _ h1,h2.le hl,Its.le hl vs ks h3⟩
theorem Its.le {h k:Hp} (hl:dm h k):∀ (vs:List Nat) (ts:List Tr),Its h vs ts→Its k vs ts
 | [],[],_=>trivial
 | v::vs,t::ts,hi=>⟨It.le hl v t hi.1,Its.le hl vs ts hi.2⟩
 | [],_::_,hi=>hi
 | _::_,[],hi=>hi
end
theorem Its.app {h:Hp}:∀ {vs us:List Nat} {ts rs:List Tr},Its h vs ts→Its h us rs→Its h (vs++us) (ts++rs)
 | [],_,[],_,_,hb=>hb
 | _::_,_,_::_,_,ha,hb=>⟨ha.1,Its.app ha.2 hb⟩
 | [],_,_::_,_,ha,_=>by cases ha
 | _::_,_,[],_,ha,_=>by cases ha
theorem Its.len {h:Hp}:∀ {vs:List Nat} {ts:List Tr},Its h vs ts→vs.length=ts.length
 | [],[],_=>rfl
 | _::_,_::_,ha=>by simp[Its.len ha.2]
 | [],_::_,ha=>by cases ha
 | _::_,[],ha=>by cases ha
def VO (g g':Hp):Hp:=fun c=>(g c).or (g' c)
theorem Ua (g g':Hp):dm g (VO g g'):=fun c o h=>by unfold VO;rw[h];rfl
theorem Zf {g g' k:Hp} (h:dm g k) (h':dm g' k):dm (VO g g') k:=fun c o hc=>by
 unfold VO at hc
 cases hg:g c with
 | some x=>rw[hg] at hc;cases hc;exact h c _ hg
 | none=>rw[hg] at hc;exact h' c _ hc
theorem AA {g g':Hp} {c:Nat} (h:g c=none) (h':g' c=none):VO g g' c=none:=by unfold VO;rw[h,h'];rfl
def Zr (b:Nat) (h k:Hp):Prop:=∀ c o,c≠b→h c=some o→k c=some o
structure At (h:Hp) (b:Nat) (sl:bg) (L:List Tok) (p:PS) (k g:Hp):Prop where
 kp:Zr b h k
 pw:PW k b sl L p
 hb:h b≠none
 le:dm g k
 fr:∀ c,h c≠none→g c=none
theorem At.start {h:Hp} {b:Nat} {sl:bg} {L:List Tok} {p:PS} (W:PW h b sl L p):At h b sl L p h LP:=
 ⟨fun _ _ _ h=>h,W,by rw[W.blk];simp,fun _ _ h=>(by cases h),fun _ _=>rfl⟩
section
variable {h:Hp} {b:Nat} {sl:bg} {L:List Tok} {p:PS} {k g:Hp}
theorem At.gb (A:At h b sl L p k g):g b=none:=A.fr b A.hb
theorem At.move (A:At h b sl L p k g) {q:PS} (W:PW (k.set b ⟨JV sl q,PT⟩) b sl L q):At h b sl L q (k.set b ⟨JV sl q,PT⟩) g:=
 ⟨fun c o hc ho=>by rw[bi _ hc];exact A.kp c o hc ho,W,A.hb,fun c o hc=>by rw[bi _ (fun e=>by rw[e,A.gb] at hc;cases hc)];exact A.le c o hc,A.fr⟩
theorem At.dom (A:At h b sl L p k g) {c:Nat} (hc:h c≠none):k c≠none:=by
 by_cases e:c=b
 · rw[e,A.pw.blk];simp
 · cases ho:h c with
   | none=>exact absurd ho hc
   | some o=>rw[A.kp c o e ho];simp
theorem At.then (A:At h b sl L p k g) {q:PS} {k' g':Hp} (A':At k b sl L q k' g'):At h b sl L q k' (VO g g'):=
 ⟨fun c o hc ho=>A'.kp c o hc (A.kp c o hc ho),A'.pw,A.hb,Zf (fun c o hc=>A'.kp c o (fun e=>by rw[e,A.gb] at hc;cases hc) (A.le c o hc)) A'.le,fun c hc=>AA (A.fr c hc) (A'.fr c (A.dom hc))⟩
theorem At.Zz (A:At h b sl L p k g) {q:PS} {k' g':Hp} (A':At k b sl L q k' g'):dm g' (VO g g'):=fun c o hc=>by
 unfold VO
 cases hg:g c with
 | none=>exact hc
 | some x=>have:=A'.fr c (by rw[A.le c x hg];simp);rw[this] at hc;cases hc
theorem At.new (A:At h b sl L p k g) {c:Nat} (hc:k c=none) (o:HO):At h b sl L p (k.set c o) (g.set c o):=by
 have hcb:c≠b:=fun e=>by rw[e,A.pw.blk] at hc;cases hc
 have hgc:g c=none:=by
  cases hg:g c with
  | none=>rfl
  | some x=>rw[A.le c x hg] at hc;cases hc
 refine⟨fun d x hd hx=>?_,⟨?_,A.pw.tok.keep fun d x _ hd=>?_,A.pw.lw,A.pw.len,A.pw.at',A.pw.d0,A.pw.d1⟩,A.hb,fun d x hd=>?_,fun d hd=>?_⟩
 · rw[bi _ (fun e=>A.dom (c:=d) (by rw[hx];simp) (by rw[e];exact hc))];exact A.kp d x hd hx
 · rw[bi _ hcb.symm];exact A.pw.blk
 · rw[bi _ (fun e=>by rw[e,hc] at hd;cases hd)];exact hd
 · by_cases e:d=c
   · rw[e,ax] at hd ⊢;exact hd
   · rw[bi _ e] at hd ⊢;exact A.le d x hd
 · rw[bi _ (fun e=>A.dom hd (by rw[e];exact hc))];exact A.fr d hd
theorem At.gnew (A:At h b sl L p k g) {c:Nat} (hc:k c=none) (o:HO):dm g (g.set c o):=by
 refine dF ?_ o
 cases hg:g c with
 | none=>rfl
 | some x=>rw[A.le c x hg] at hc;cases hc
end
theorem TU (h:Hp):Kids h ⟨none,0,0⟩ []:=⟨.inl ⟨rfl,rfl⟩,rfl⟩
theorem WL (g:Hp) (c:Nat) (vs:List Nat) (hn:vs.length≤100):Kids (g.set c ⟨vs.map lD,PI⟩) ⟨some (c,0),vs.length,vs.length⟩ vs:=
 ⟨.inr ⟨c,_,rfl,ax _ _ _,rfl,by simp,Nat.le_refl _,Nat.le_trans hn (by decide),by simp[List.take_of_length_le]⟩,rfl⟩
theorem WJ {g:Hp} {v:Nat} {k l c n:Int} {x:List UInt8} {s:bg} {vs:List Nat} {ks:List Tr} (hv:g v=none) (hk:Kids g s vs) (hi:Its g vs ks):It (g.set v ⟨Bd k l c n x s,IT⟩) v (.nd k l c n x ks):=
 ⟨s,vs,ax _ _ _,hk.le (dF hv _),Its.le (dF hv _) _ _ hi⟩
end Go.Proofs.YtgpanefhaiohnaaGreatDoor
namespace Go.Proofs.YtgpanefhaiohnaaGreatDoor
open Go.RowKit
attribute [local go_sem] aZ aY ag ai ak aN au aC di jZ pq nY aj says_again fG BE.den IE.den SE.den LE.den AE.den CE.den PE.den VE.den KV.val dw.den dw.cnt iM dU iY allL Ctx.push Ctx.heap Ctx.cut Ctx.bare Ctx.mark Inc.blank List.getD_cons_zero List.getD_cons_succ List.cons_append List.nil_append List.append_nil List.map_cons List.map_nil List.replicate_zero List.replicate_succ aB bQ bu bG bn bY cO aU aT aV bF bD aF aO aH aA ax aS aI bW af and_assoc
section
variable {h:Hp} {b:Nat} {sl:bg} {L:List Tok} {p:PS} {k g:Hp}
theorem At.fail (A:At h b sl L p k g) (e:Int):At h b sl L (qL L e p) (k.set b ⟨JV sl (qL L e p),PT⟩) g:=A.move (A.pw.Yz (rM e p))
theorem At.pass (A:At h b sl L p k g):At h b sl L (wI L p) (k.set b ⟨JV sl (wI L p),PT⟩) g:=A.move (A.pw.Yz (xN A.pw.lw p))
theorem At.word (A:At h b sl L p k g) (n:Int):At h b sl L (OQ L n p) (k.set b ⟨JV sl (OQ L n p),PT⟩) g:=A.move (A.pw.Yz (Rz A.pw.lw n p))
theorem At.open (A:At h b sl L p k g) (s:List UInt8) (hd:p.d+1≤1000000000000):At h b sl L (DC L s p) (k.set b ⟨JV sl (DC L s p),PT⟩) g:=A.move (A.pw.adv (Ry A.pw.lw s p) (by have:=A.pw.d0;omega) hd)
theorem At.none_g (A:At h b sl L p k g) {c:Nat} (hc:k c=none):g c=none:=by
 cases hg:g c with
 | none=>rfl
 | some x=>rw[A.le c x hg] at hc;cases hc
theorem At.node (A:At h b sl L p k g) {kb v:Nat} {vs:List Nat} {ts:List Tr} (hkb:k kb=none) (hI:Its g vs ts) (hn:vs.length≤100) (hv:(k.set kb ⟨vs.map lD,PI⟩) v=none) (kk l c n:Int) (x:List UInt8):
 At h b sl L p ((k.set kb ⟨vs.map lD,PI⟩).set v ⟨Bd kk l c n x ⟨some (kb,0),vs.length,vs.length⟩,IT⟩) ((g.set kb ⟨vs.map lD,PI⟩).set v ⟨Bd kk l c n x ⟨some (kb,0),vs.length,vs.length⟩,IT⟩)∧
 It ((g.set kb ⟨vs.map lD,PI⟩).set v ⟨Bd kk l c n x ⟨some (kb,0),vs.length,vs.length⟩,IT⟩) v (.nd kk l c n x ts):=
 ⟨(A.new hkb _).new hv _,WJ ((A.new hkb _).none_g hv) (WL g kb vs hn) (Its.le (A.gnew hkb _) _ _ hI)⟩
end
end Go.Proofs.YtgpanefhaiohnaaGreatDoor
namespace Go.Proofs.YtgpanefhaiohnaaGreatDoor
open Go.RowKit
attribute [local go_sem] aZ aY ag ai ak aN au aC aj says_again BE.den IE.den SE.den LE.den AE.den CE.den PE.den VE.den KV.val dw.den dw.cnt iM dU iY allL Ctx.push Ctx.heap Ctx.cut Ctx.bare Ctx.mark Inc.blank List.getD_cons_zero List.getD_cons_succ List.cons_append List.nil_append List.append_nil List.map_cons List.map_nil List.replicate_zero List.replicate_succ aB bQ bu bG bn bY cO aU aT aV bF bD aF aO aH aA ax aS aI bW af and_assoc
section
variable {h:Hp} {b:Nat} {sl:bg} {L:List Tok} {p:PS} {k g:Hp}
theorem At.put (A:At h b sl L p k g) {c:Nat} (hc:k c=none) (o:HO):At h b sl L p (k.set c o) g:=by
 have B:=A.new hc o
 exact⟨B.kp,B.pw,A.hb,fun d x hd=>by rw[bi _ (fun e=>by rw[e,A.none_g hc] at hd;cases hd)];exact A.le d x hd,A.fr⟩
end
structure Out (h:Hp) (b:Nat) (sl:bg) (L:List Tok) (p:PS) (k g:Hp) (o:Nat) (kk l c n:Int) (x:List UInt8) (s:bg) (vs:List Nat) (ts:List Tr):Prop where
 at':At h b sl L p k g
 blk:k o=some ⟨Bd kk l c n x s,IT⟩
 ho:h o=none
 go:g o=none
 kids:Kids k s vs
 hs:∀ z,s.a=some z→h z.1=none∧g z.1=none
 its:Its g vs ts
theorem ZH:IT≠PT:=by decide
theorem ZU:PI≠PT:=by decide
theorem ZG:IT≠PI:=by decide
theorem Yd:IT≠TK:=by decide
theorem ZV:PI≠TK:=by decide
theorem Kids.blk {h:Hp} {s:bg} {vs:List Nat} (K:Kids h s vs) {z:Nat×Nat} (hz:s.a=some z):∃ cs,h z.1=some ⟨cs,PI⟩:=by
 rcases K.own with ⟨h1,_⟩ | ⟨c,o,h1,h2,h3,_⟩
 · rw[h1] at hz;cases hz
 · rw[h1] at hz;cases hz
   obtain⟨cs,ty⟩:=o
   simp only at h3;subst h3
   exact⟨cs,h2⟩
theorem Kids.keep {h k:Hp} {s:bg} {vs:List Nat} (K:Kids h s vs) (hk:∀ z cs,s.a=some z→h z.1=some ⟨cs,PI⟩→k z.1=some ⟨cs,PI⟩):Kids k s vs:=by
 refine⟨?_,K.len⟩
 rcases K.own with h0 | ⟨c,o,h1,h2,h3,h4⟩
 · exact .inl h0
 · obtain⟨cs,ty⟩:=o
   simp only at h3;subst h3
   exact .inr ⟨c,_,h1,hk _ cs h1 h2,rfl,h4⟩
section
variable {h:Hp} {b:Nat} {sl:bg} {L:List Tok} {p:PS} {k g:Hp} {o:Nat} {kk l c n:Int} {x:List UInt8} {s:bg} {vs:List Nat} {ts:List Tr}
theorem At.h_none (A:At h b sl L p k g) {c:Nat} (hc:k c=none):h c=none:=by
 cases hh:h c with
 | none=>rfl
 | some y=>exact absurd hc (A.dom (by rw[hh];simp))
theorem Out.ob (O:Out h b sl L p k g o kk l c n x s vs ts):o≠b:=fun e=>by
 have:=O.blk;rw[e,O.at'.pw.blk] at this
 exact ZH (HO.mk.inj (Option.some.inj this)).2.symm
theorem Out.zb (O:Out h b sl L p k g o kk l c n x s vs ts) {z:Nat×Nat} (hz:s.a=some z):z.1≠b:=fun e=>by
 obtain⟨cs,h1⟩:=O.kids.blk hz
 rw[e,O.at'.pw.blk] at h1
 exact ZU (HO.mk.inj (Option.some.inj h1)).2.symm
theorem Out.zo (O:Out h b sl L p k g o kk l c n x s vs ts) {z:Nat×Nat} (hz:s.a=some z):z.1≠o:=fun e=>by
 obtain⟨cs,h1⟩:=O.kids.blk hz
 rw[e,O.blk] at h1
 exact ZG (HO.mk.inj (Option.some.inj h1)).2
theorem At.out (A:At h b sl L p k g) (ho:k o=none) (kk l c n:Int) (x:List UInt8):Out h b sl L p (k.set o ⟨Bd kk l c n x ⟨none,0,0⟩,IT⟩) g o kk l c n x ⟨none,0,0⟩ [] []:=
 ⟨A.put ho _,ax _ _ _,A.h_none ho,A.none_g ho,TU _,fun _ hz=>(by cases hz),trivial⟩
theorem Out.move (O:Out h b sl L p k g o kk l c n x s vs ts) {q:PS} (W:PW (k.set b ⟨JV sl q,PT⟩) b sl L q):Out h b sl L q (k.set b ⟨JV sl q,PT⟩) g o kk l c n x s vs ts:=
 ⟨O.at'.move W,by rw[bi _ O.ob];exact O.blk,O.ho,O.go,O.kids.keep fun z cs hz hc=>by rw[bi _ (O.zb hz)];exact hc,O.hs,O.its⟩
theorem Out.fail (O:Out h b sl L p k g o kk l c n x s vs ts) (e:Int):Out h b sl L (qL L e p) (k.set b ⟨JV sl (qL L e p),PT⟩) g o kk l c n x s vs ts:=O.move (O.at'.fail e).pw
theorem Out.pass (O:Out h b sl L p k g o kk l c n x s vs ts):Out h b sl L (wI L p) (k.set b ⟨JV sl (wI L p),PT⟩) g o kk l c n x s vs ts:=O.move O.at'.pass.pw
theorem Out.open (O:Out h b sl L p k g o kk l c n x s vs ts) (w:List UInt8) (hd:p.d+1≤1000000000000):Out h b sl L (DC L w p) (k.set b ⟨JV sl (DC L w p),PT⟩) g o kk l c n x s vs ts:=O.move (O.at'.open w hd).pw
theorem Out.then (O:Out h b sl L p k g o kk l c n x s vs ts) {q:PS} {k' g':Hp} (A':At k b sl L q k' g'):Out h b sl L q k' (VO g g') o kk l c n x s vs ts:=by
 refine⟨O.at'.then A',A'.kp _ _ O.ob O.blk,O.ho,AA O.go (A'.fr _ (by rw[O.blk];simp)),O.kids.keep fun z cs hz hc=>A'.kp _ _ (O.zb hz) hc,fun z hz=>?_,Its.le (Ua _ _) _ _ O.its⟩
 obtain⟨cs,h1⟩:=O.kids.blk hz
 exact⟨(O.hs z hz).1,AA (O.hs z hz).2 (A'.fr _ (by rw[h1];simp))⟩
theorem Out.done (O:Out h b sl L p k g o kk l c n x s vs ts):∃ g',At h b sl L p k g'∧It g' o (.nd kk l c n x ts):=by
 let g':Hp:=fun d=>if d=o∨s.a.map (·.1)=some d then k d else g d
 have gg:dm g g':=fun d y hd=>by
  show (if d=o∨s.a.map (·.1)=some d then k d else g d)=some y
  split
  · exact O.at'.le d y hd
  · exact hd
 have go:g' o=some ⟨Bd kk l c n x s,IT⟩:=by
  show (if o=o∨_ then k o else g o)=_
  rw[if_pos (.inl rfl)];exact O.blk
 refine⟨g',⟨O.at'.kp,O.at'.pw,O.at'.hb,fun d y hd=>?_,fun d hd=>?_⟩,s,vs,go,O.kids.keep fun z cs hz hc=>?_,Its.le gg _ _ O.its⟩
 · have hd':(if d=o∨s.a.map (·.1)=some d then k d else g d)=some y:=hd
   split at hd'
   · exact hd'
   · exact O.at'.le d y hd'
 · show (if d=o∨s.a.map (·.1)=some d then k d else g d)=none
   rw[if_neg]
   · exact O.at'.fr d hd
   · rintro (e | e)
     · rw[e,O.ho] at hd;exact hd rfl
     · cases hz:s.a with
       | none=>rw[hz] at e;cases e
       | some z=>
         rw[hz] at e
         have e':z.1=d:=Option.some.inj e
         rw[← e',(O.hs z hz).1] at hd;exact hd rfl
 · show (if z.1=o∨s.a.map (·.1)=some z.1 then k z.1 else g z.1)=_
   rw[if_pos (.inr (by rw[hz];rfl))];exact hc
theorem I9 {E:Env} {C:Ctx} {xe ye:LE} {f:Fm} {us:List Nat} {rs:List Tr} {kb:Nat} (O:Out h b sl L p k g o kk l c n x s vs ts) (hI:Its g us rs) (hn:vs.length≤2000000) (hu:us≠[]∧us.length≤100) (hkb:k kb=none) (hx:xe.den C=s) (hy:ye.den C=⟨some (kb,0),us.length,us.length⟩) (hC:C.h=k.set kb ⟨us.map lD,PI⟩)
 (hk:∀ s' k'',k'' o=some ⟨Bd kk l c n x s,IT⟩→Out h b sl L p (k''.set o ⟨Bd kk l c n x s',IT⟩) g o kk l c n x s' (vs++us) (ts++rs)→f.says E ((C.push ⟨[],[],[],[],[s'],[]⟩).heap k'')):
 (Fm.app xe ye 1 8 PI f).says E C:=by
 have hlen:=O.kids.len
 have hm:(2000101:Nat)≤maxLen:=by decide
 have zk:∀ z,s.a=some z→z.1≠kb:=fun z hz e=>by
  obtain⟨cs,h1⟩:=O.kids.blk hz
  rw[e,hkb] at h1;cases h1
 rw[fG,hx,hy,hC]
 refine⟨vs.map lD,us.map lD,(O.kids.keep fun z cs hz hc=>by rw[bi _ (zk z hz)];exact hc).own,.inr ⟨by simp,?_⟩,fun u hu=>?_,?_,?_,fun s' k'' g1 g2 g3 g4=>?_⟩
 · rw[aH,if_pos (by simp)];simp[List.take_of_length_le]
 · obtain⟨y,_,rfl⟩:=List.mem_map.1 hu;rfl
 · show s.n+us.length≤maxLen
   omega
 · show (s.n+us.length)*8≤_
   omega
 have g2':s'.n=s.n+us.length:=g2
 have keep:∀ d y,(∀ z,s.a=some z→z.1≠d)→k d=some y→k'' d=some y:=fun d y hz hd=>g4 d y hz (by rw[bi _ (fun e=>by rw[e,hkb] at hd;cases hd)];exact hd)
 have ko:k'' o=some ⟨Bd kk l c n x s,IT⟩:=keep o _ (fun z hz=>O.zo hz) O.blk
 have zne:∀ z,s'.a=some z→z.1≠o∧h z.1=none∧g z.1=none:=fun z hz=>by
  rcases g3 z hz with ⟨y,hy,e⟩ | hn
  · rw[← e];exact⟨O.zo hy,O.hs y hy⟩
  · have m1:z.1≠kb:=fun e=>by rw[e,ax] at hn;cases hn
    rw[bi _ m1] at hn
    exact⟨fun e=>(by rw[e,O.blk] at hn;cases hn),O.at'.h_none hn,O.at'.none_g hn⟩
 refine hk s' k'' ko ⟨⟨fun d y hdb hd=>?_,⟨?_,O.at'.pw.tok.keep fun d y hty hd=>?_,O.at'.pw.lw,O.at'.pw.len,O.at'.pw.at',O.at'.pw.d0,O.at'.pw.d1⟩,O.at'.hb,fun d y hd=>?_,O.at'.fr⟩,ax _ _ _,O.ho,O.go,?_,fun z hz=>(zne z hz).2,Its.app O.its hI⟩
 · rw[bi _ (fun e=>by rw[e,O.ho] at hd;cases hd)]
   exact keep d y (fun z hz e=>by rw[← e,(O.hs z hz).1] at hd;cases hd) (O.at'.kp d y hdb hd)
 · rw[bi _ O.ob.symm]
   exact keep b _ (fun z hz=>O.zb hz) O.at'.pw.blk
 · rw[bi _ (fun e=>by rw[e,O.blk] at hd;cases hd;exact Yd hty)]
   refine keep d y (fun z hz e=>?_) hd
   obtain⟨cs,h1⟩:=O.kids.blk hz
   rw[e,hd] at h1;cases h1;exact ZV hty
 · rw[bi _ (fun e=>by rw[e,O.go] at hd;cases hd)]
   exact keep d y (fun z hz e=>by rw[← e,(O.hs z hz).2] at hd;cases hd) (O.at'.le d y hd)
 · refine Kids.keep (h:=k'') ⟨by rw[List.map_append];exact g1,by rw[g2',hlen];simp⟩ fun z cs hz hc=>?_
   rw[bi _ (zne z hz).1];exact hc
theorem WY {E:Env} {C:Ctx} {xe ye:LE} {f:Fm} {v kb:Nat} {t:Tr} (O:Out h b sl L p k g o kk l c n x s vs ts) (hI:It g v t) (hn:vs.length≤2000000) (hkb:k kb=none) (hx:xe.den C=s) (hy:ye.den C=⟨some (kb,0),1,1⟩) (hC:C.h=k.set kb ⟨[lD v],PI⟩)
 (hk:∀ s' k'',k'' o=some ⟨Bd kk l c n x s,IT⟩→Out h b sl L p (k''.set o ⟨Bd kk l c n x s',IT⟩) g o kk l c n x s' (vs++[v]) (ts++[t])→f.says E ((C.push ⟨[],[],[],[],[s'],[]⟩).heap k'')):
 (Fm.app xe ye 1 8 PI f).says E C:=I9 O (us:=[v]) (rs:=[t]) ⟨hI,trivial⟩ hn ⟨by simp,by simp⟩ hkb hx hy hC hk
theorem CX {k'':Hp} (hk4:k'' o=some ⟨Bd kk l c n x s,IT⟩) (s':bg):jk k'' (some (o,6)) [s'.val]=some (k''.set o ⟨Bd kk l c n x s',IT⟩):=by
 simp[Qk hk4,Bd]
def seg (o li pi:Nat) (fc:FuncId) (args:List PE) (K:Fm):Fm:=
 .O (.pt o 6) 1 [(.sl (.x li))] ⟨0,0,0,0,1,0⟩ (.N (.nnp o) (.N (.nnp o) (.callK (.c true) [((.c true),(.pt o 6),1)] fc args (.p (.one (.pt pi))) ⟨0,0,0,0,0,1⟩
  (.mk [(.pt pi)] PI 1 (.app (.x li) (.x (li+1)) 1 8 PI (.N (.nnp o) (.N (.nnp o) (.store (.pt o 6) [(.sl (.x (li+2)))] K))))))))
theorem grow {E:Env} {fc:FuncId} {args:List PE} {K:Fm} {i:List Int} {bb:List Bool} {ss:List (List UInt8)} {vv:List Value} {ls:List bg} {pp:List (Option (Nat×Nat))} {M:Nat→Nat} {on li pi:Nat} {q:PS} {t:Tr}
 (O:Out h b sl L p k g o kk l c n x s vs ts) (ho:pp.getD on none=some (o,0)) (hl:ls.length=li) (hp:pp.length=pi) (hol:on<pi) (hn:vs.length≤2000000)
 (hs:∀ φ:Value→Hp→Prop,(∀ v k' g',At k b sl L q k' g'→It g' v t→φ (lD v) k')→E.spec fc (args.map (PE.den ⟨i,bb,ss,vv,ls++[s],pp,k,M⟩ aP)) k φ)
 (hk:∀ v kb s' k5 g',Out h b sl L q k5 g' o kk l c n x s' (vs++[v]) (ts++[t])→Then E K ⟨i,bb,ss,vv,ls++[s]++[⟨some (kb,0),1,1⟩]++[s'],pp++[some (v,0)],k5,M⟩):
 Then E (seg on li pi fc args K) ⟨i,bb,ss,vv,ls,pp,k,M⟩:=by
 subst hl hp
 have ho':pp[on]? = some (some (o,0)):=by
  rw[List.getD_eq_getElem?_getD] at ho
  cases hq:pp[on]? with
  | none=>rw[hq] at ho;cases ho
  | some y=>rw[hq] at ho;exact congrArg some ho
 have hlp:∀ (u:List (Option (Nat×Nat))),(pp++u)[on]? = some (some (o,0)):=fun u=>by rw[List.getElem?_append_left hol];exact ho'
 have hb1:=O.blk
 unfold seg
 rw[ae,au,if_pos (by rfl)]
 refine (ah _ _).2 ⟨⟨[],[],[],[],[s],[]⟩,rfl,af,?_,?_⟩
 · simp[AE.den,CE.den,LE.den,Ctx.push,ho',dN hb1,Bd]
 rw[ae,ag]
 refine⟨by simp[BE.den,Ctx.push,ho'],?_⟩
 rw[ae,ag]
 refine⟨by simp[BE.den,Ctx.push,ho'],?_⟩
 rw[ae,aN,if_pos (by rfl)]
 simp only[Ctx.push,List.append_nil]
 refine hs _ fun v k' g' A' hI'=>?_
 have O':=O.then A'
 have hb2:=O'.blk
 refine⟨fun y hy _=>?_,(ah _ _).2 ⟨⟨[],[],[],[],[],[some (v,0)]⟩,rfl,af,?_,?_⟩⟩
 · rw[List.mem_singleton] at hy;subst hy
   simp[AE.den,ho',dN hb1,dN hb2]
 · simp[VE.den,PE.den,CE.den,lD]
 rw[ae,di]
 intro kb hkb
 have hkb':k' kb=none:=hkb
 rw[ae]
 refine WY O' (It.le (O.at'.Zz A') _ _ hI') hn hkb' ?_ ?_ ?_ fun s' k4 hk4 O4=>?_
 · simp[LE.den,Ctx.push,Ctx.heap]
 · simp[LE.den,Ctx.push,Ctx.heap]
 · simp[CE.den,Ctx.push,Ctx.heap,lD]
 rw[ag]
 refine⟨by simp[BE.den,Ctx.push,Ctx.heap,hlp],?_⟩
 rw[ae,ag]
 refine⟨by simp[BE.den,Ctx.push,Ctx.heap,hlp],?_⟩
 rw[ae,aC]
 refine⟨k4.set o ⟨Bd kk l c n x s',IT⟩,?_,?_⟩
 rotate_left
 · have e:=hk v kb s' _ _ O4
   simpa[Ctx.push,Ctx.heap] using e
 · have e:=CX hk4 s'
   simpa[AE.den,CE.den,LE.den,Ctx.push,Ctx.heap,hlp,List.getElem?_append] using e
end
end Go.Proofs.YtgpanefhaiohnaaGreatDoor
namespace Go.Proofs.YtgpanefhaiohnaaGreatDoor
open Go.RowKit
attribute [local go_sem] aZ aY ag ai ak aN au aC aj says_again BE.den IE.den SE.den LE.den AE.den CE.den PE.den VE.den KV.val dw.den dw.cnt iM dU iY allL Ctx.push Ctx.heap Ctx.cut Ctx.bare Ctx.mark Inc.blank List.getD_cons_zero List.getD_cons_succ List.cons_append List.nil_append List.append_nil List.map_cons List.map_nil List.replicate_zero List.replicate_succ aB bQ bu bG bn bY cO aU aT aV bF bD aF aO aH aA ax aS aI bW af and_assoc
section
variable {h:Hp} {b:Nat} {sl:bg} {L:List Tok} {p:PS} {k g:Hp} {o:Nat} {kk l c n:Int} {x:List UInt8} {s:bg} {vs:List Nat} {ts:List Tr}
theorem Out.num (O:Out h b sl L p k g o kk l c n x s vs ts) (n':Int):Out h b sl L p (k.set o ⟨Bd kk l c n' x s,IT⟩) g o kk l c n' x s vs ts:=by
 refine⟨⟨fun d y hdb hd=>?_,⟨?_,O.at'.pw.tok.keep fun d y hty hd=>?_,O.at'.pw.lw,O.at'.pw.len,O.at'.pw.at',O.at'.pw.d0,O.at'.pw.d1⟩,O.at'.hb,fun d y hd=>?_,O.at'.fr⟩,ax _ _ _,O.ho,O.go,O.kids.keep fun z cs hz hc=>?_,O.hs,O.its⟩
 · rw[bi _ (fun e=>by rw[e,O.ho] at hd;cases hd)];exact O.at'.kp d y hdb hd
 · rw[bi _ O.ob.symm];exact O.at'.pw.blk
 · rw[bi _ (fun e=>by rw[e,O.blk] at hd;cases hd;exact Yd hty)];exact hd
 · rw[bi _ (fun e=>by rw[e,O.go] at hd;cases hd)];exact O.at'.le d y hd
 · rw[bi _ (O.zo hz)];exact hc
end
theorem two {E:Env} {fc:FuncId} {h:Hp} {b:Nat} {sl:bg} {L:List Tok} {p:PS} {k g:Hp} {o:Nat} {kk l c n:Int} {x:List UInt8} {s:bg} {vs:List Nat} {ts:List Tr} {i:List Int} {bb:List Bool} {ss:List (List UInt8)} {pp:List (Option (Nat×Nat))} {M:Nat→Nat} {on rn pi u:Nat} {q:PS} {t tu:Tr}
 (O:Out h b sl L p k g o kk l c n x s vs ts) (hu:It g u tu) (ho:pp.getD on none=some (o,0)) (hr:pp.getD rn none=some (u,0)) (hp:pp.length=pi) (hol:on<pi) (hrl:rn<pi) (hn:vs.length≤2000000)
 (hs:∀ φ:Value→Hp→Prop,(∀ v k' g',At k b sl L q k' g'→It g' v t→φ (lD v) k')→E.spec fc [lD b] k φ) (hb0:pp.getD 0 none=some (b,0))
 (hk:∀ k5,(∃ g',At h b sl L q k5 g'∧It g' o (.nd kk l c n x (ts++[tu,t])))→E.post (lD o) k5):
 Then E (.O (.pt on 6) 1 [(.sl (.x 0))] ⟨0,0,0,0,1,0⟩ (.N (.nnp on) (.N (.nnp on) (.callK (.c true) [((.c true),(.pt on 6),1)] fc [.P 0] (.p (.one (.pt pi))) ⟨0,0,0,0,0,1⟩
  (.mk [(.pt rn),(.pt pi)] PI 2 (.app (.x 0) (.x 1) 1 8 PI (.N (.nnp on) (.N (.nnp on) (.store (.pt on 6) [(.sl (.x 2))] (.ret (.p (.one (.pt on))))))))))))) ⟨i,bb,ss,[],[],pp,k,M⟩:=by
 subst hp
 have get:∀ {j:Nat} {y},pp.getD j none=some y→pp[j]? = some (some y):=fun {j y} hj=>by
  rw[List.getD_eq_getElem?_getD] at hj
  cases hq:pp[j]? with
  | none=>rw[hq] at hj;cases hj
  | some z=>rw[hq] at hj;exact congrArg some hj
 have ho':=get ho
 have hr':=get hr
 have hb':=get hb0
 have hb1:=O.blk
 have hlo:∀ (u:List (Option (Nat×Nat))),(pp++u)[on]? = some (some (o,0)):=fun u=>by rw[List.getElem?_append_left hol];exact ho'
 have hlr:∀ (w:List (Option (Nat×Nat))),(pp++w)[rn]? = some (some (u,0)):=fun w=>by rw[List.getElem?_append_left hrl];exact hr'
 rw[ae,au,if_pos (by rfl)]
 refine (ah _ _).2 ⟨⟨[],[],[],[],[s],[]⟩,rfl,af,?_,?_⟩
 · simp[AE.den,CE.den,LE.den,Ctx.push,ho',dN hb1,Bd]
 rw[ae,ag]
 refine⟨by simp[BE.den,Ctx.push,ho'],?_⟩
 rw[ae,ag]
 refine⟨by simp[BE.den,Ctx.push,ho'],?_⟩
 rw[ae,aN,if_pos (by rfl)]
 simp only[Ctx.push,List.append_nil,List.nil_append,List.map_cons,List.map_nil,PE.den,CE.den,hb0,Option.map_some]
 refine hs _ fun v k' g' A' hI'=>?_
 have O':=O.then A'
 have hb2:=O'.blk
 refine⟨fun y hy _=>?_,(ah _ _).2 ⟨⟨[],[],[],[],[],[some (v,0)]⟩,rfl,af,?_,?_⟩⟩
 · rw[List.mem_singleton] at hy;subst hy
   simp[AE.den,ho',dN hb1,dN hb2]
 · simp[VE.den,PE.den,CE.den,lD]
 rw[ae,di]
 intro kb hkb
 have hkb':k' kb=none:=hkb
 rw[ae]
 refine I9 (us:=[u,v]) (rs:=[tu,t]) O' ⟨It.le (Ua _ _) _ _ hu,It.le (O.at'.Zz A') _ _ hI',trivial⟩ hn ⟨by simp,by simp⟩ hkb' ?_ ?_ ?_ fun s' k4 hk4 O4=>?_
 · simp[LE.den,Ctx.push,Ctx.heap]
 · simp[LE.den,Ctx.push,Ctx.heap]
 · simp[CE.den,Ctx.push,Ctx.heap,lD,hlr]
 rw[ag]
 refine⟨by simp[BE.den,Ctx.push,Ctx.heap,hlo],?_⟩
 rw[ae,ag]
 refine⟨by simp[BE.den,Ctx.push,Ctx.heap,hlo],?_⟩
 rw[ae,aC]
 refine⟨k4.set o ⟨Bd kk l c n x s',IT⟩,?_,?_⟩
 · have e:=CX hk4 s'
   simpa[AE.den,CE.den,LE.den,Ctx.push,Ctx.heap,hlo] using e
 · rw[ae,aj]
   have e:=hk _ O4.done
   simpa[VE.den,PE.den,CE.den,Ctx.push,Ctx.heap,hlo,lD] using e
end Go.Proofs.YtgpanefhaiohnaaGreatDoor
namespace Go.Proofs.YtgpanefhaiohnaaGreatDoor
open Go.RowKit
attribute [local go_sem] aZ aY ag ai ak aN au aC aj says_again BE.den IE.den SE.den LE.den AE.den CE.den PE.den VE.den KV.val dw.den dw.cnt iM dU iY allL Ctx.push Ctx.heap Ctx.cut Ctx.bare Ctx.mark Inc.blank List.getD_cons_zero List.getD_cons_succ List.cons_append List.nil_append List.append_nil List.map_cons List.map_nil List.replicate_zero List.replicate_succ aB bQ bu bG bn bY cO aU aT aV bF bD aF aO aH aA ax aS aI bW af and_assoc
def ND:TypeId:=251
def VR.cs (x:VR):List Value:=[.int .u8 x.k,.int .i64 x.l,.int .i64 x.c,.int .i64 (x.z:Nat),.int .i64 x.n,.string (B x.x)]
end Go.Proofs.YtgpanefhaiohnaaGreatDoor
namespace Go.Proofs.YtgpanefhaiohnaaGreatDoor
open Go.RowKit
attribute [local go_sem] aZ aY ag ai ak aN au aC aj says_again BE.den IE.den SE.den LE.den AE.den CE.den PE.den VE.den KV.val dw.den dw.cnt iM dU iY allL Ctx.push Ctx.heap Ctx.cut Ctx.bare Ctx.mark Inc.blank List.getD_cons_zero List.getD_cons_succ List.cons_append List.nil_append List.append_nil List.map_cons List.map_nil List.replicate_zero List.replicate_succ aB bQ bu bG bn bY cO aU aT aV bF bD aF aO aH aA ax aS aI bW af and_assoc
theorem ZM:ND≠IT:=by decide
theorem ZN:ND≠PI:=by decide
theorem bJ.ty {h:Hp} {s:bg} {xs:List Value} {ty:TypeId} {sz:Nat} (ho:bJ h s xs ty sz) {z:Nat×Nat} (hz:s.a=some z):∃ cs,h z.1=some ⟨cs,ty⟩:=by
 rcases ho with ⟨h1,_⟩ | ⟨c,o,h1,h2,h3,_⟩
 · rw[h1] at hz;cases hz
 · rw[h1] at hz;cases hz
   obtain⟨cs,ty'⟩:=o
   simp only at h3;subst h3
   exact⟨cs,h2⟩
mutual
theorem It.keep {h k:Hp} (hk:∀ c o,o.ty≠ND→h c=some o→k c=some o):∀ (v:Nat) (t:Tr),It h v t→It k v t
 | v,.nd _ _ _ _ _ ks,hi=>by
   obtain⟨sl,vs,h1,h2,h3⟩:=hi
   exact⟨sl,vs,hk _ _ ZM.symm h1,h2.keep fun z cs _ hc=>hk _ _ ZN.symm hc,Its.keep hk vs ks h3⟩
theorem Its.keep {h k:Hp} (hk:∀ c o,o.ty≠ND→h c=some o→k c=some o):∀ (vs:List Nat) (ts:List Tr),Its h vs ts→Its k vs ts
 | [],[],_=>trivial
 | v::vs,t::ts,hi=>⟨It.keep hk v t hi.1,Its.keep hk vs ts hi.2⟩
 | [],_::_,hi=>hi
 | _::_,[],hi=>hi
end
theorem Its.get {h:Hp}:∀ {vs:List Nat} {ts:List Tr},Its h vs ts→∀ (j:Nat) (hj:j<ts.length),∃ v,vs[j]? = some v∧It h v ts[j]
 | v::vs,t::ts,hi,0,_=>⟨v,rfl,hi.1⟩
 | v::vs,t::ts,hi,j+1,hj=>by
   obtain⟨u,h1,h2⟩:=Its.get hi.2 j (by simpa using hj)
   exact⟨u,by simpa using h1,by simpa using h2⟩
 | [],[],_,j,hj=>by cases hj
 | [],_::_,hi,_,_=>by cases hi
 | _::_,[],hi,_,_=>by cases hi
theorem Kids.read {h:Hp} {s:bg} {vs:List Nat} (K:Kids h s vs) {j v:Nat} (hv:vs[j]? = some v):s.a.isSome=true∧hread h (s.a.map fun x=>(x.1,x.2+j*1+0)) 1=some [lD v]:=by
 have hj:=(List.getElem?_eq_some_iff.1 hv).1
 rcases K.own with ⟨h1,h2⟩ | ⟨c,o,h1,h2,h3,h4,h5,h6,h7⟩
 · have:=congrArg List.length h2;simp at this;rw[this] at hj;cases hj
 · have hl:=K.len
   rw[h1]
   refine⟨rfl,?_⟩
   simp only[Option.map_some,Nat.zero_add,Nat.mul_one,Nat.add_zero]
   rw[dN h2,if_pos (by omega)]
   have e:(o.cs.take (s.n*1))[j]? = some (lD v):=by rw[← h7,List.getElem?_map,hv];rfl
   rw[List.getElem?_take,if_pos (by omega)] at e
   rw[List.drop_eq_getElem_cons (by omega)]
   have e2:o.cs[j]'(by omega)=lD v:=by
    have:=List.getElem?_eq_getElem (l:=o.cs) (i:=j) (by omega)
    rw[this] at e;exact Option.some.inj e
   rw[e2];rfl
mutual
theorem Tr.aah:∀ t:Tr,t.n=t.sz+1
 | .nd k l c n x ks=>by
   have:=Tr.LY ks
   simp only[Tr.n,Tr.Qs,List.length_cons,Tr.sz]
   simp only[Tr.ns] at this
   omega
theorem Tr.LY:∀ ks:List Tr,Tr.ns ks=Tr.Zq ks
 | []=>rfl
 | t::ks=>by
   rw[WV,Tr.aah t,Tr.LY ks,Tr.Zq]
end
end Go.Proofs.YtgpanefhaiohnaaGreatDoor
namespace Go.Proofs.YtgpanefhaiohnaaGreatDoor
open Go.RowKit
def VR.g (x:VR):Ng:=⟨x.k,x.l,x.c,x.z,x.n,x.x⟩
def Tr.gs (t:Tr):List Ng:=t.Qs.map VR.g
def Tr.Rj (ts:List Tr):List Ng:=(Tr.qJ ts).map VR.g
def places:Int→List Tr→List Int
 | _,[]=>[]
 | p,t::ts=>p::places (p+t.n) ts
theorem Io (t:Tr) (ts:List Tr):Tr.Rj (t::ts)=t.gs++Tr.Rj ts:=by simp[Tr.Rj,Tr.gs,zD]
theorem TF (t:Tr):t.gs.length=t.n:=by simp[Tr.gs,Tr.n]
theorem Ol (ts:List Tr):(Tr.Rj ts).length=Tr.ns ts:=by simp[Tr.Rj,Tr.ns]
theorem Vp (ts:List Tr):Tr.Zq ts=Tr.ns ts:=(Tr.LY ts).symm
theorem X4 (k l c n:Int) (x:List UInt8) (ks:List Tr):(Tr.nd k l c n x ks).gs=⟨k,l,c,Tr.ns ks,n,x⟩::Tr.Rj ks:=by
 simp[Tr.gs,Tr.Rj,Tr.Qs,VR.g,Vp]
end Go.Proofs.YtgpanefhaiohnaaGreatDoor
namespace Go.Proofs.YtgpanefhaiohnaaGreatDoor
open Go.RowKit
attribute [local go_sem] aZ aY ag ai ak aN au aC aj says_again BE.den IE.den SE.den LE.den AE.den CE.den PE.den VE.den KV.val dw.den dw.cnt iM dU iY allL Ctx.push Ctx.heap Ctx.cut Ctx.bare Ctx.mark Inc.blank List.getD_cons_zero List.getD_cons_succ List.cons_append List.nil_append List.append_nil List.map_cons List.map_nil List.replicate_zero List.replicate_succ aB bQ bu bG bn bY cO aU aT aV bF bD aF aO aH aA ax aS aI bW af and_assoc
def Ng.lv (x:Ng):Nat:=if x.k=31 then (Z5 x.n).2 else if x.k=30 then 7 else 8
def Tr.g:Tr→Ng
 | .nd k l c n x ks=>⟨k,l,c,Tr.ns ks,n,x⟩
theorem Wy:∀ t:Tr,∃ r,t.gs=t.g::r∧r.length=t.sz
 | .nd k l c n x ks=>⟨Tr.Rj ks,X4 ..,by rw[Ol];simp[Tr.sz,Vp]⟩
def Ps (l:List Ng) (p:Nat) (t:Tr):Prop:=∃ pre post,l=pre++t.gs++post∧pre.length=p
def Yw (l:List Ng) (p:Nat) (ts:List Tr):Prop:=∃ pre post,l=pre++Tr.Rj ts++post∧pre.length=p
theorem Ps.kids {l:List Ng} {p:Nat} {k ln c n:Int} {x:List UInt8} {ks:List Tr} (h:Ps l p (.nd k ln c n x ks)):Yw l (p+1) ks:=by
 obtain⟨pre,post,rfl,rfl⟩:=h
 exact⟨pre++[⟨k,ln,c,Tr.ns ks,n,x⟩],post,by rw[X4];simp,by simp⟩
theorem Yw.cons {l:List Ng} {p:Nat} {t:Tr} {ts:List Tr} (h:Yw l p (t::ts)):Ps l p t∧Yw l (p+t.n) ts:=by
 obtain⟨pre,post,rfl,rfl⟩:=h
 refine⟨⟨pre,Tr.Rj ts++post,by rw[Io];simp,rfl⟩,⟨pre++t.gs,post,by rw[Io];simp,by rw[List.length_append,TF]⟩⟩
theorem Ps.node {l:List Ng} {p:Nat} {t:Tr} (h:Ps l p t):∃ hp:p<l.length,l[p]=t.g:=by
 obtain⟨pre,post,rfl,rfl⟩:=h
 obtain⟨r,hr,_⟩:=Wy t
 have hlt:pre.length<(pre++t.gs++post).length:=by rw[hr];simp
 refine⟨hlt,?_⟩
 simp[hr]
theorem Ps.lt {l:List Ng} {p:Nat} {t:Tr} (h:Ps l p t):p+t.n≤l.length:=by
 obtain⟨pre,post,rfl,rfl⟩:=h
 rw[List.length_append,List.length_append,TF];omega
structure AU (h:Hp) (s:bg) (ks:List Int):Prop where
 n:s.n=ks.length
 c:s.n≤s.c
 at_:ks=[]∨∃ b o ob,s.a=some (b,o)∧h b=some ob∧ob.ty=3∧(ob.cs.drop o).take ks.length=Zp ks∧o+ks.length≤ob.cs.length
theorem AU.own {h:Hp} {s:bg} {ks:List Int} (ho:bJ h s (Zp ks) 3 1) (hn:s.n=ks.length):AU h s ks:=by
 rcases ho with ⟨rfl,hk⟩ | ⟨b,o,h1,h2,h3,h4,h5,_,h7⟩
 · exact⟨hn,Nat.le_refl _,.inl (by simpa[Zp] using hk)⟩
 · exact⟨hn,h5,.inr ⟨b,0,o,h1,h2,h3,by rw[List.drop_zero,← hn,h7,Nat.mul_one],by omega⟩⟩
theorem AU.le {h k:Hp} {s:bg} {ks:List Int} (R:AU h s ks) (hl:dm h k):AU k s ks:=
 ⟨R.n,R.c,R.at_.imp id fun ⟨b,o,ob,h1,h2,h3⟩=>⟨b,o,ob,h1,hl _ _ h2,h3⟩⟩
theorem AU.go {h k:Hp} {b:Nat} {lsl sl sl':bg} {used:Bool} {inn:Int} {acc:List UInt8} {s:bg} {ks:List Int} (R:AU h s ks) (X:VJ h b lsl used sl inn acc) (G:Rf h k b sl sl'):AU k s ks:=by
 refine⟨R.n,R.c,R.at_.imp id fun ⟨c,o,ob,h1,h2,h3,h4⟩=>⟨c,o,ob,h1,G.keep c ob (fun e=>?_) (fun z hz e=>?_) h2,h3,h4⟩⟩
 · rw[e,X.at_] at h2
   cases h2
   exact absurd h3 (show ¬ (YPT=3) by decide)
 · obtain⟨o',ho,ht⟩:=X.blk hz
   rw[e,h2] at ho
   cases ho
   rw[h3] at ht
   exact absurd ht (by decide)
theorem AU.read {h:Hp} {s:bg} {ks:List Int} (R:AU h s ks) {j:Nat} (hj:j<ks.length):∃ b o,s.a=some (b,o)∧hread h (some (b,o+j*1+0)) 1=some [.int .i64 ks[j]]:=by
 rcases R.at_ with rfl | ⟨b,o,ob,h1,h2,h3,h4,h5⟩
 · simp at hj
 · refine⟨b,o,h1,?_⟩
   rw[dN h2,if_pos (by omega)]
   have e:(ob.cs.drop (o+j*1+0)).take 1=(((ob.cs.drop o).take ks.length).drop j).take 1:=by
    rw[List.drop_take,List.take_take,List.drop_drop,Nat.mul_one,Nat.add_zero,Nat.min_eq_left (by omega)]
   rw[e,h4,List.drop_eq_getElem_cons (by rw[WA];exact hj)]
   simp[Zp]
theorem VI.node {h:Hp} {b:Nat} {lsl sl:bg} {l:List Ng} {used:Bool} {inn:Int} {acc:List UInt8} (X:VI h b lsl l used sl inn acc) {p:Nat} {t:Tr} (P:Ps l p t):∃ c o,lsl.a=some (c,o)∧hread h (some (c,o+p*6+0)) 6=some t.g.cs∧p<lsl.n:=by
 obtain⟨hp,e⟩:=P.node
 have hn:=NG.n X.row
 obtain⟨c,o,ha⟩:=Rows.nn X.row (j:=p) (by omega)
 exact⟨c,o,ha,by rw[NG.node X.row hp ha,e],by omega⟩
end Go.Proofs.YtgpanefhaiohnaaGreatDoor
namespace Go.Proofs.YtgpanefhaiohnaaGreatDoor
open Go.RowKit
attribute [local go_sem] aZ aY ag ai ak aN au aC aj says_again BE.den IE.den SE.den LE.den AE.den CE.den PE.den VE.den KV.val dw.den dw.cnt iM dU iY allL Ctx.push Ctx.heap Ctx.cut Ctx.bare Ctx.mark Inc.blank List.getD_cons_zero List.getD_cons_succ List.cons_append List.nil_append List.append_nil List.map_cons List.map_nil List.replicate_zero List.replicate_succ aB bQ bu bG bn bY cO aU aT aV bF bD aF aO aH aA ax aS aI bW af and_assoc
def V3:Ct Tryz.prog where
 f:=326
 spec:=fun args h φ=>∃ x,args=[Ng.v x]∧φ (.bool (YC 21 32 x)) h
 ok:=by
  rintro args h φ w ⟨x,rfl,hφ⟩ hH
  refine fA (dD Tryz.func326 PY Uz [wo,lZ] (fun v k=>∃ k',dm k' k∧φ v k') ig eX ⟨[x.k,x.l,x.c,x.z,x.n],[],[x.x],[],[],[],h,dY⟩ ⟨rfl,rfl,rfl,rfl,rfl,rfl⟩ af ?_ w hH rfl)
  have hs:bQ [wo,lZ] 397=lZ.spec:=rfl
  generalize hE:(⟨aB _,_,_,_⟩:Env)=E
  have s1:E.spec 324=wo.spec:=by rw[← hE];rfl
  have s2:E.spec 1000001=aB [wo,lZ] bu:=by rw[← hE];rfl
  have ep:E.post=(fun v k=>∃ k',dm k' k∧φ v k'):=by rw[← hE]
  clear hE
  unfold Ht
  rw[ak,if_pos (by rfl),s1]
  refine⟨21,32,rfl,fun p q k hk h1 h2=>?_⟩
  refine⟨fun h=>(by cases h),(ah _ _).2 ⟨⟨[],[],[],[.func (.func 397) #[] #[.pointer (some ⟨p,0,none⟩),.pointer (some ⟨q,0,none⟩)]],[],[]⟩,rfl,by intro u hu;simp at hu;subst hu;rfl,rfl,?_⟩⟩
  rw[ae,ak,if_pos (by rfl),s2]
  refine Gq (x:=x) hs h1 h2 ?_
  refine⟨fun h=>(by cases h),(ah _ _).2 ⟨⟨[],[YC 21 32 x],[],[],[],[]⟩,rfl,af,rfl,?_⟩⟩
  rw[ae,aj,ep]
  exact⟨h,hk,hφ⟩
def wants:List (Ct Tryz.prog):=[V4,V3,Su,lZ,Zy]
theorem Want.one {cs:List (Ct Tryz.prog)} {h:Hp} {v:Value} {p:Ng→Bool} (W:Want cs h v p):v.cells=#[v]∧v≠undef:=by
 obtain⟨f,cap,rfl,_⟩:=W
 exact⟨rfl,by intro h;cases h⟩
theorem Want.ones {cs:List (Ct Tryz.prog)} {h:Hp} {v:Value} {p:Ng→Bool} (W:Want cs h v p):dZ [v]:=by
 obtain⟨f,cap,rfl,_⟩:=W
 intro u hu;simp at hu;subst hu;rfl
def XP (h:Hp) (sl:bg) (ps:List (Ng→Bool)):Prop:=∃ vs,Rows h sl vs 1∧vs.length=ps.length∧∀ (i:Nat) v p,vs[i]? = some v→ps[i]? = some p→Want wants h v p
theorem XP.n {h:Hp} {sl:bg} {ps:List (Ng→Bool)} (W:XP h sl ps):sl.n=ps.length:=by
 obtain⟨vs,R,hl,_⟩:=W
 have:=R.1
 omega
end Go.Proofs.YtgpanefhaiohnaaGreatDoor
namespace Go.Proofs.YtgpanefhaiohnaaGreatDoor
open Go.RowKit
attribute [local go_sem] aZ aY ag ai ak aN au aC aj says_again BE.den IE.den SE.den LE.den AE.den CE.den PE.den VE.den KV.val dw.den dw.cnt iM dU iY allL Ctx.push Ctx.heap Ctx.cut Ctx.bare Ctx.mark Inc.blank List.getD_cons_zero List.getD_cons_succ List.cons_append List.nil_append List.append_nil List.map_cons List.map_nil List.replicate_zero List.replicate_succ aB bQ bu bG bn bY cO aU aT aV bF bD aF aO aH aA ax aS aI bW af and_assoc
theorem hset {h:Hp} {b:Nat} (hb:h b=none) (o:HO):dm h (h.set b o):=fun c x hc=>by rw[bi _ (fun e=>by rw[e,hb] at hc;cases hc)];exact hc
theorem dm.trans {h k m:Hp} (a:dm h k) (b:dm k m):dm h m:=fun c o hc=>b c o (a c o hc)
theorem NG.take {h:Hp} {sl:bg} {l:List Ng} (R:NG h sl l) {m c:Nat} (hm:m≤l.length):NG h ⟨sl.a,m,c⟩ (l.take m):=by
 have hn:=NG.n R
 have e:Cm (l.take m)=(Cm l).take (m*6):=by
  have h1:Cm l=Cm (l.take m)++Cm (l.drop m):=by rw[← Ws,List.take_append_drop]
  have h2:(Cm (l.take m)).length=m*6:=by rw[EC,List.length_take];omega
  rw[h1,← h2,List.take_left]
 refine⟨by rw[EC,List.length_take];show _=m*6;omega,?_⟩
 by_cases h0:m=0
 · exact .inl h0
 right
 obtain⟨b,o,ha⟩:=Rows.nn R (j:=0) (by omega)
 rcases R.2 with h1 | hr
 · omega
 · show hread h sl.a (m*6)=_
   rw[ha] at hr⊢
   have:=Ip hr (k:=0) (m:=m*6) (by omega)
   rw[e]
   simpa using this
end Go.Proofs.YtgpanefhaiohnaaGreatDoor
namespace Go.Proofs.YtgpanefhaiohnaaGreatDoor
open Go.RowKit
mutual
def Tr.subs:Tr→List Tr
 | .nd k l c n x ks=>.nd k l c n x ks::Tr.Yn ks
def Tr.Yn:List Tr→List Tr
 | []=>[]
 | t::ts=>t.subs++Tr.Yn ts
end
def Tr.kl:Tr→List Tr
 | .nd _ _ _ _ _ ks=>ks
end Go.Proofs.YtgpanefhaiohnaaGreatDoor
namespace Go.Proofs.YtgpanefhaiohnaaGreatDoor
open Go.RowKit
attribute [local go_sem] aZ aY ag ai ak aN au aC aj says_again BE.den IE.den SE.den LE.den AE.den CE.den PE.den VE.den KV.val dw.den dw.cnt iM dU iY allL Ctx.push Ctx.heap Ctx.cut Ctx.bare Ctx.mark Inc.blank List.getD_cons_zero List.getD_cons_succ List.cons_append List.nil_append List.append_nil List.map_cons List.map_nil List.replicate_zero List.replicate_succ aB bQ bu bG bn bY cO aU aT aV bF bD aF aO aH aA ax aS aI bW af and_assoc
def Fits (acc s:List UInt8):Prop:=s.length≤1000000000000∧acc.length+s.length≤1000000000000
theorem Fits.sub {acc s a b c:List UInt8} (F:Fits acc s) (h:s=a++(b++c)):Fits (acc++a) b:=by
 obtain⟨h1,h2⟩:=F
 subst h
 simp only[List.length_append] at h1 h2
 exact⟨by omega,by rw[List.length_append];omega⟩
theorem Fits.put {acc s a b c:List UInt8} (F:Fits acc s) (h:s=a++(b++c)):(acc++a).length+b.length≤1000000000000:=(F.sub h).2
theorem Fits.p0 {acc s b c:List UInt8} (F:Fits acc s) (h:s=b++c):acc.length+b.length≤1000000000000:=by
 obtain⟨_,h2⟩:=F
 rw[h,List.length_append] at h2
 omega
theorem F8.app:∀ {a b:List Tr},F8 (a++b)→F8 b
 | [],_,h=>h
 | _::_,_,.cons _ _ _ hs=>F8.app hs
theorem Yw.app {l:List Ng} {p:Nat} {a b:List Tr} (h:Yw l p (a++b)):Yw l (p+Tr.ns a) b:=by
 obtain⟨pre,post,rfl,rfl⟩:=h
 refine⟨pre++Tr.Rj a,post,by simp[Tr.Rj,Du],by rw[List.length_append,Ol]⟩
end Go.Proofs.YtgpanefhaiohnaaGreatDoor
namespace Go.Proofs.YtgpanefhaiohnaaGreatDoor
open Go.RowKit
attribute [local go_sem] aZ aY ag ai ak aN au aC aj says_again BE.den IE.den SE.den LE.den AE.den CE.den PE.den VE.den KV.val dw.den dw.cnt iM dU iY allL Ctx.push Ctx.heap Ctx.cut Ctx.bare Ctx.mark Inc.blank List.getD_cons_zero List.getD_cons_succ List.cons_append List.nil_append List.append_nil List.map_cons List.map_nil List.replicate_zero List.replicate_succ aB bQ bu bG bn bY cO aU aT aV bF bD aF aO aH aA ax aS aI bW af and_assoc
theorem NG.rd {h:Hp} {sl:bg} {l:List Ng} (R:NG h sl l):XN h sl (Cm l) 6:=by
 have hn:=NG.n R
 rcases R.2 with h0 | hr
 · refine .inl ⟨h0,?_⟩
   have:l=[]:=List.eq_nil_of_length_eq_zero (by omega)
   rw[this];rfl
 · refine .inr ⟨?_,hr⟩
   intro e
   rw[e] at hr
   cases hr
end Go.Proofs.YtgpanefhaiohnaaGreatDoor
namespace Go.Proofs.YtgpanefhaiohnaaGreatDoor
open Go.RowKit
theorem Fe {x:List UInt8} (h:xG x):bT uC x=true:=by
 obtain⟨h1,h2,h3,_⟩:=h
 cases x with
 | nil=>simp[bt,nZ] at h1
 | cons c r=>
   rw[iQ] at h1
   have ha:(c::r).all (fun c=>inB c.toNat)=true:=List.all_eq_true.2 h2
   rw[bT,h3,ha]
   have:uC c.toNat=true:=by
    unfold nZ at h1
    unfold uC
    simp only[Bool.or_eq_true,beq_iff_eq,Bool.and_eq_true,bn]
    split at h1
    · omega
    · split at h1
      · omega
      · split at h1<;>omega
   rw[this];rfl
theorem Ba {x:List UInt8} (h:uD x):bT Zo x=true:=by
 obtain⟨h1,h2,_⟩:=h
 cases x with
 | nil=>simp[bt,nZ] at h1
 | cons c r=>
   have hw:iF (c::r)=false:=by
    cases hq:iF (c::r) with
    | false=>rfl
    | true=>
      have hall:∀ w∈Po,nZ (bt w 0)≠2:=by decide
      have hm:(c::r)∈Po:=by simpa[iF] using hq
      exact absurd h1 (hall _ hm)
   rw[iQ] at h1
   have ha:(c::r).all (fun c=>inB c.toNat)=true:=List.all_eq_true.2 h2
   rw[bT,hw,ha]
   have:Zo c.toNat=true:=by
    unfold nZ at h1
    unfold Zo
    simp only[Bool.and_eq_true,bn]
    split at h1
    · omega
    · split at h1
      · omega
      · split at h1<;>omega
   rw[this];rfl
end Go.Proofs.YtgpanefhaiohnaaGreatDoor
namespace Go.Proofs.YtgpanefhaiohnaaGreatDoor
open Go.RowKit
theorem tK {x:List UInt8} (h:bT uC x=true) (hl:x.length≤1000000):xG x:=by
 cases x with
 | nil=>cases h
 | cons c r=>
   rw[bT] at h
   simp only[Bool.and_eq_true,Bool.not_eq_true'] at h
   obtain⟨h1,h2,h3⟩:=h
   refine⟨?_,List.all_eq_true.1 h3,h2,hl⟩
   rw[iQ]
   unfold uC at h1
   simp only[Bool.or_eq_true,beq_iff_eq,Bool.and_eq_true,bn] at h1
   unfold nZ
   rw[if_pos (by omega)]
theorem qH {x:List UInt8} (h:bT Zo x=true) (hl:x.length≤1000000):uD x:=by
 cases x with
 | nil=>cases h
 | cons c r=>
   rw[bT] at h
   simp only[Bool.and_eq_true,Bool.not_eq_true'] at h
   obtain⟨h1,h2,h3⟩:=h
   refine⟨?_,List.all_eq_true.1 h3,hl⟩
   rw[iQ]
   unfold Zo at h1
   simp only[Bool.and_eq_true,bn] at h1
   unfold nZ
   rw[if_neg (by omega),if_pos (by omega)]
end Go.Proofs.YtgpanefhaiohnaaGreatDoor
namespace Go.Proofs.YtgpanefhaiohnaaGreatDoor
open Go.RowKit
attribute [local go_sem] aZ aY ag ai ak aN au aC aj says_again BE.den IE.den SE.den LE.den AE.den CE.den PE.den VE.den KV.val dw.den dw.cnt iM dU iY allL Ctx.push Ctx.heap Ctx.cut Ctx.bare Ctx.mark Inc.blank List.getD_cons_zero List.getD_cons_succ List.cons_append List.nil_append List.append_nil List.map_cons List.map_nil List.replicate_zero List.replicate_succ aB bQ bu bG bn bY cO aU aT aV bF bD aF aO aH aA ax aS aI bW af and_assoc
def BQ:Fm:=(.need (.not (.eqI (.len (.x 0)) (.c 0))) (.and (.le (.c 0) (.c 0)) (.lt (.c 0) (.len (.x 0))))
 (.need (.and (.not (.eqI (.len (.x 0)) (.c 0))) (.le (.c 48) (.at (.x 0) (.c 0)))) (.and (.le (.c 0) (.c 0)) (.lt (.c 0) (.len (.x 0))))
 (.ite (.or (.eqI (.len (.x 0)) (.c 0)) (.and (.le (.c 48) (.at (.x 0) (.c 0))) (.le (.at (.x 0) (.c 0)) (.c 57))))
 (.ret (.p (.one (.b (.c false)))))
 (.C 67 [.S 0,(.I (.c 0))] (.tup [.K 1 2 3 4 1,.J 5,.J 6]) ⟨6,0,1,0,0,0⟩
 (.ret (.p (.one (.b (.and (.and (.eqI (.x 6) (.c 0)) (.eqI (.x 5) (.len (.x 0)))) (.eqI (.x 1) (.x 0)))))))))))
theorem KN:df ⟨true,[]⟩ Tryz.prog (fun l=>([]:List dL).getD l ⟨[],[],[]⟩) Tryz.f50=BQ:=by kernel_rfl
theorem QC:aX Tryz.prog .zero Tryz.f50.params.toList=some ([.S 0,(.one (.U 0))],⟨1,0,1,0,0,0⟩):=by kernel_rfl
def yH:Fm:=(.C 50 [.S 0,(.one (.i .u8 (.c 1)))] (.p (.B 0)) ⟨0,1,0,0,0,0⟩
 (.ret (.p (.B 0))))
theorem Ih:df ⟨true,[]⟩ Tryz.prog (fun l=>([]:List dL).getD l ⟨[],[],[]⟩) Tryz.f29=yH:=by kernel_rfl
theorem Me:aX Tryz.prog .zero Tryz.f29.params.toList=some ([.S 0],⟨0,0,1,0,0,0⟩):=by kernel_rfl
theorem Pg {α:Type} {p:α→Bool}:∀ {l:List α},(∀ c∈l,p c=true)→l.takeWhile p=l
 | [],_=>rfl
 | a::l,h=>by rw[List.takeWhile_cons,if_pos (h a (by simp)),Pg (fun c hc=>h c (by simp[hc]))]
theorem U2 {p:Int→Bool} {s:List UInt8}:rn p s 0=s.length↔∀ c∈s,p c.toNat=true:=by
 unfold rn
 rw[List.drop_zero]
 constructor
 · intro h c hc
   have e:=(List.takeWhile_sublist (l:=s) (fun c:UInt8=>p c.toNat)).eq_of_length h
   rw[← e] at hc
   have:=List.all_eq_true.1 (List.all_takeWhile (p:=fun c:UInt8=>p c.toNat) (l:=s)) c hc
   exact this
 · intro h
   rw[Pg (p:=fun c:UInt8=>p c.toNat) h]
def Be (k:Int) (s:List UInt8):Bool:=if k=1 then bT uC s else bT Zo s
theorem O8 (s:List UInt8):sub s 0 s.length=s:=by unfold sub;simp
theorem IR {k:Int} (hk:k=1∨k=2) {s:List UInt8} (_h0:s≠[]) (hl:s.length≤100000):((one s 0).f=0∧(one s 0).e=s.length∧(one s 0).k=k)↔Be k s=true:=by
 have hn:Be k s=true↔(if k=1 then xG s else uD s):=by
  unfold Be
  split
  · exact⟨fun h=>tK h (by omega),Fe⟩
  · exact⟨fun h=>qH h (by omega),Ba⟩
 rw[hn]
 by_cases h12:nZ (bt s 0)=1∨nZ (bt s 0)=2
 · have ho:one s 0=⟨0,wF (bt s 0) (sub s 0 (0+rn inB s 0)),sub s 0 (0+rn inB s 0),0,0+rn inB s 0⟩:=by unfold one;rw[if_pos h12]
   rw[ho]
   simp only[Nat.zero_add,true_and]
   constructor
   · rintro⟨he,hkk⟩
     rw[he,O8] at hkk
     have hall:=U2.1 he
     unfold wF at hkk
     split
     · rename_i hk1
       subst hk1
       split at hkk
       · omega
       · rename_i h2
         split at hkk
         · omega
         · rename_i hw
           exact⟨by omega,hall,by simpa using hw,by omega⟩
     · split at hkk
       · rename_i h2
         exact⟨h2,hall,by omega⟩
       · split at hkk<;>omega
   · intro h
     have hall:∀ c∈s,inB c.toNat=true:=by
      split at h
      · exact h.2.1
      · exact h.2.1
     have he:=U2.2 hall
     refine⟨he,?_⟩
     rw[he,O8]
     unfold wF
     split at h
     · rename_i hk1
       obtain⟨e1,_,e2,_⟩:=h
       rw[if_neg (by omega),e2,hk1]
       rfl
     · rw[if_pos h.1]
       omega
 · have hno:¬ (if k=1 then xG s else uD s):=by
    intro h
    split at h
    · exact h12 (.inl h.1)
    · exact h12 (.inr h.1)
   refine⟨fun h=>absurd h ?_,fun h=>absurd h hno⟩
   rintro⟨h1,_,h3⟩
   unfold one at h1 h3
   rw[if_neg h12] at h1 h3
   split at h3
   · rename_i h4
     rw[if_pos h4] at h1
     unfold nm Y0 at h1 h3
     revert h1 h3
     repeat' split
     all_goals (intro h1 h3;simp only at h1 h3;omega)
   · rename_i h4
     rw[if_neg h4] at h1
     split at h3
     · rename_i h5
       rw[if_pos h5] at h1
       cases hq:Y9 (s.drop 0) with
       | none=>rw[hq] at h1;simp at h1
       | some r=>rw[hq] at h3;simp at h3;omega
     · rename_i h5
       rw[if_neg h5] at h1
       split at h3
       · rename_i h6
         rw[if_pos h6] at h1
         simp at h1
       · simp at h3;omega
def GN:Ct Tryz.prog where
 f:=50
 spec:=fun args h φ=>∃ s k,args=[.string (B s),.int .u8 k]∧(k=1∨k=2)∧s.length≤100000∧φ (.bool (Be k s)) h
 ok:=by
  rintro args h φ w ⟨s,k,rfl,hk,hl,hφ⟩ hH
  refine fA (dD Tryz.func50 KN QC [Sm] (fun v k=>∃ k',dm k' k∧φ v k') (ig) (eX) ⟨[k],[],[s],[],[],[],h,dY⟩ ⟨rfl,rfl,rfl,rfl,rfl,rfl⟩ af ?_ w hH rfl)
  generalize hE:(⟨aB _,_,_,_⟩:Env)=E
  have s_ctROne:E.spec 67=(Sm).spec:=by rw[← hE];rfl
  have ep:E.post=(fun v k=>∃ k',dm k' k∧φ v k'):=by rw[← hE]
  clear hE
  unfold BQ
  have no:∀ b:Bool,b=false→Be k s=false→φ (.bool b) h:=by
   intro b h1 h2
   rw[h1,← h2];exact hφ
  by_cases h0:s=[]
  · subst h0
    rw[ag];refine⟨by simp[go_sem],?_⟩
    rw[ae,ag];refine⟨by simp[go_sem],?_⟩
    rw[ae,ai,if_pos (by simp[go_sem])]
    rw[ae,aj,ep]
    refine⟨h,fun _ _ h=>h,no _ rfl ?_⟩
    unfold Be
    split<;>rfl
  have hpos:0<s.length:=List.length_pos_iff.2 h0
  have hz:¬ (s.length:Int)=0:=by omega
  rw[ag];refine⟨by simp[go_sem];omega,?_⟩
  rw[ae,ag];refine⟨by simp[go_sem];omega,?_⟩
  have hb:(SE.x 0).den ⟨[k],[],[s],[],[],[],h,dY⟩=s:=rfl
  by_cases hd:48≤bt s 0∧bt s 0≤57
  · rw[ae,ai,if_pos (by simp[go_sem];right;exact hd)]
    rw[ae,aj,ep]
    refine⟨h,fun _ _ h=>h,no _ rfl ?_⟩
    cases hq:Be k s with
    | false=>rfl
    | true=>
      exfalso
      unfold Be at hq
      have hkd:nZ (bt s 0)=1∨nZ (bt s 0)=2:=by
       split at hq
       · exact .inl (tK hq (by omega)).1
       · exact .inr (qH hq (by omega)).1
      unfold nZ at hkd
      rw[if_neg (by omega),if_neg (by omega),if_pos (by omega)] at hkd
      omega
  rw[ae,ai,if_neg (by simp[go_sem];exact⟨h0,fun _=>by omega⟩)]
  rw[ae,ak,if_pos (by rfl),s_ctROne]
  refine⟨s,0,rfl,hpos,hl,(by unfold nZ;split<;>(try split)<;>(try split)<;>omega),?_⟩
  have hp:=IR hk h0 hl
  split
  · rename_i hf
    rw[hf] at hp
    refine⟨fun h=>(by cases h),(ah _ _).2 ⟨⟨[(one s 0).k,0,0,(one s 0).n,((one s 0).e:Nat),0],[],[(one s 0).x],[],[],[]⟩,rfl,af,rfl,?_⟩⟩
    rw[ae,aj,ep]
    refine⟨h,fun _ _ h=>h,?_⟩
    have e:Be k s=((((one s 0).e:Nat):Int)==((s.length:Nat):Int)&&(one s 0).k==k):=by
     rw[Bool.eq_iff_iff,← hp];simp;omega
    rw[e] at hφ
    simpa[go_sem] using hφ
  · rename_i hf
    intro kk
    refine⟨fun h=>(by cases h),(ah _ _).2 ⟨⟨[kk,0,0,0,0,(one s 0).f],[],[[]],[],[],[]⟩,rfl,af,rfl,?_⟩⟩
    rw[ae,aj,ep]
    refine⟨h,fun _ _ h=>h,no _ (by simp[go_sem,hf]) ?_⟩
    cases hq:Be k s with
    | false=>rfl
    | true=>exact absurd (hp.2 hq).1 hf
def xg:Ct Tryz.prog where
 f:=29
 spec:=fun args h φ=>∃ s,args=[.string (B s)]∧s.length≤100000∧φ (.bool (bT uC s)) h
 ok:=by
  rintro args h φ w ⟨s,rfl,hl,hφ⟩ hH
  refine dD Tryz.func29 Ih Me [GN] φ (ig) (eX) ⟨[],[],[s],[],[],[],h,dY⟩ ⟨rfl,rfl,rfl,rfl,rfl,rfl⟩ af ?_ w hH rfl
  generalize hE:(⟨aB _,_,_,_⟩:Env)=E
  have s_ctRNamed:E.spec 50=(GN).spec:=by rw[← hE];rfl
  have ep:E.post=φ:=by rw[← hE]
  clear hE
  unfold yH
  rw[ak,if_pos (by rfl),s_ctRNamed]
  refine⟨s,1,rfl,.inl rfl,hl,?_⟩
  refine⟨fun h=>(by cases h),(ah _ _).2 ⟨⟨[],[bT uC s],[],[],[],[]⟩,rfl,af,rfl,?_⟩⟩
  rw[ae,aj,ep]
  exact hφ
end Go.Proofs.YtgpanefhaiohnaaGreatDoor
namespace Go.Proofs.YtgpanefhaiohnaaGreatDoor
open Go.RowKit
attribute [local go_sem] aZ aY ag ai ak aN au aC aj says_again BE.den IE.den SE.den LE.den AE.den CE.den PE.den VE.den KV.val dw.den dw.cnt iM dU iY allL Ctx.push Ctx.heap Ctx.cut Ctx.bare Ctx.mark Inc.blank List.getD_cons_zero List.getD_cons_succ List.cons_append List.nil_append List.append_nil List.map_cons List.map_nil List.replicate_zero List.replicate_succ aB bQ bu bG bn bY cO aU aT aV bF bD aF aO aH aA ax aS aI bW af and_assoc
def gy:Fm:=(.C 40 [.S 1,(.one (.i .u8 (.c 32)))] (.p (.L 6)) ⟨0,0,0,0,1,0⟩
 (.N (.X (.c 0) (.x 6))
 (.O (.el (.x 6) (.c 0) 1 0) 1 [(.s (.x 2))] ⟨0,0,1,0,0,0⟩
 (.need (.not (.eqS (.x 2) (.c [105,110]))) (.X (.c 0) (.x 6))
 (.load (.not (.eqS (.x 2) (.c [105,110]))) (.el (.x 6) (.c 0) 1 0) 1 [(.s (.x 3))] ⟨0,0,1,0,0,0⟩
 (.need (.not (.or (.eqS (.x 2) (.c [105,110])) (.eqS (.x 3) (.c [100,114,97,119])))) (.X (.c 0) (.x 6))
 (.load (.not (.or (.eqS (.x 2) (.c [105,110])) (.eqS (.x 3) (.c [100,114,97,119])))) (.el (.x 6) (.c 0) 1 0) 1 [(.s (.x 4))] ⟨0,0,1,0,0,0⟩
 (.ite (.or (.or (.eqS (.x 2) (.c [105,110])) (.eqS (.x 3) (.c [100,114,97,119]))) (.eqS (.x 4) (.c [101,118,105,99,116])))
 (.N (.and (.le (.cnt (.x 6)) (.cap (.x 6))) (.and (.le (.c 0) (.c 1)) (.le (.c 1) (.cnt (.x 6)))))
 (.C 41 [(.one (.sl (.sub (.x 6) (.c 1) (.cnt (.x 6)) 1)))] (.tup [.L 7,.B 0]) ⟨0,1,0,0,1,0⟩
 (.N (.X (.c 0) (.x 6))
 (.O (.el (.x 6) (.c 0) 1 0) 1 [(.s (.x 5))] ⟨0,0,1,0,0,0⟩
 (.ite (.eqS (.x 5) (.c [105,110]))
 (.ret (.tup [(.agg [(.sl (.x 7)),(.sl (.x 1)),.J 0,.J 1,.J 2,.J 3,.J 4,.J 5,(.sl (.x 2)),(.sl (.x 3)),(.sl (.x 4)),(.s (.x 0)),(.sl (.x 5))]),.B 0]))
 (.N (.X (.c 0) (.x 6))
 (.O (.el (.x 6) (.c 0) 1 0) 1 [(.s (.x 6))] ⟨0,0,1,0,0,0⟩
 (.ite (.eqS (.x 6) (.c [100,114,97,119]))
 (.ret (.tup [(.agg [(.sl (.x 0)),(.sl (.x 7)),.J 0,.J 1,.J 2,.J 3,.J 4,.J 5,(.sl (.x 2)),(.sl (.x 3)),(.sl (.x 4)),(.s (.x 0)),(.sl (.x 5))]),.B 0]))
 (.mk [] 3 0
 (.loop 0 ⟨[(.c 0)],[],[],[],[(.x 8)],[]⟩
 (.ite (.lt (.x 6) (.cnt (.x 7)))
 (.N (.X (.x 6) (.x 7))
 (.O (.el (.x 7) (.x 6) 1 0) 1 [.J 7] ⟨1,0,0,0,0,0⟩
 (.mk [.J 7] 3 1
 (.app (.x 9) (.x 10) 1 8 3
 (.N (.R (.add (.x 6) (.c 1)))
 (.again 0 ⟨6,1,7,0,9,0⟩ ⟨7,1,7,0,10,0⟩ ⟨[(.add (.x 6) (.c 1))],[],[],[],[(.x 11)],[]⟩))))))
 (.ret (.tup [(.agg [(.sl (.x 0)),(.sl (.x 1)),.J 0,.J 1,.J 2,.J 3,.J 4,.J 5,(.sl (.x 9)),(.sl (.x 3)),(.sl (.x 4)),(.s (.x 0)),(.sl (.x 5))]),.B 0])))))))))))))
 (.need (.not (.or (.lt (.cnt (.x 6)) (.c 2)) (.lt (.c 3) (.cnt (.x 6))))) (.X (.c 1) (.x 6))
 (.load (.not (.or (.lt (.cnt (.x 6)) (.c 2)) (.lt (.c 3) (.cnt (.x 6))))) (.el (.x 6) (.c 1) 1 0) 1 [(.s (.x 5))] ⟨0,0,1,0,0,0⟩
 (.call (.not (.or (.lt (.cnt (.x 6)) (.c 2)) (.lt (.c 3) (.cnt (.x 6))))) false 42 [.S 5] (.p (.J 6)) ⟨1,0,0,0,0,0⟩
 (.ite (.or (.or (.lt (.cnt (.x 6)) (.c 2)) (.lt (.c 3) (.cnt (.x 6)))) (.lt (.x 6) (.c 0)))
 (.ret (.tup [(.agg [(.sl (.x 0)),(.sl (.x 1)),.J 0,.J 1,.J 2,.J 3,.J 4,.J 5,(.sl (.x 2)),(.sl (.x 3)),(.sl (.x 4)),(.s (.x 0)),(.sl (.x 5))]),(.one (.b (.c false)))]))
 (.N (.X (.c 1) (.x 6))
 (.O (.el (.x 6) (.c 1) 1 0) 1 [(.s (.x 6))] ⟨0,0,1,0,0,0⟩
 (.C 42 [.S 6] (.p (.J 7)) ⟨1,0,0,0,0,0⟩
 (.mk [] 53 0
 (.app (.x 7) (.x 3) 3 24 53
 (.mk [] 9 0
 (.app (.x 9) (.x 4) 1 16 9
 (.ite (.eqI (.cnt (.x 6)) (.c 3))
 (.N (.X (.c 0) (.x 6))
 (.O (.el (.x 6) (.c 0) 1 0) 1 [(.s (.x 7))] ⟨0,0,1,0,0,0⟩
 (.ite (.eqS (.x 7) (.c [117,112]))
 (.N (.X (.c 0) (.x 6))
 (.O (.el (.x 6) (.c 0) 1 0) 1 [(.s (.x 8))] ⟨0,0,1,0,0,0⟩
 (.ite (.eqS (.x 8) (.c [100,111,119,110]))
 (.mk [.J 7,(.i .i64 (.c 2)),(.i .i64 (.c 0))] 53 1
 (.app (.x 8) (.x 11) 3 24 53
 (.N (.X (.c 2) (.x 6))
 (.O (.el (.x 6) (.c 2) 1 0) 1 [(.s (.x 9))] ⟨0,0,1,0,0,0⟩
 (.mk [(.s (.x 9))] 9 1
 (.app (.x 10) (.x 13) 1 16 9
 (.load (.lt (.c 0) (.c 2)) (.el (.x 6) (.c 2) 1 0) 1 [(.s (.x 10))] ⟨0,0,1,0,0,0⟩
 (.need (.lt (.c 0) (.c 2)) (.X (.c 2) (.x 6))
 (.callK (.lt (.c 0) (.c 2)) [((.lt (.c 0) (.c 2)),(.el (.x 6) (.c 2) 1 0),1)] 29 [.S 10] (.p (.B 0)) ⟨0,1,0,0,0,0⟩
 (.ret (.tup [(.agg [(.sl (.x 0)),(.sl (.x 1)),.J 0,.J 1,.J 2,.J 3,.J 4,.J 5,(.sl (.x 2)),(.sl (.x 12)),(.sl (.x 14)),(.s (.x 0)),(.sl (.x 5))]),(.one (.b (.and (.lt (.c 0) (.c 2)) (.x 0))))])))))))))))
 (.mk [.J 7,(.i .i64 (.c 1)),(.i .i64 (.c 0))] 53 1
 (.app (.x 8) (.x 11) 3 24 53
 (.N (.X (.c 2) (.x 6))
 (.O (.el (.x 6) (.c 2) 1 0) 1 [(.s (.x 9))] ⟨0,0,1,0,0,0⟩
 (.mk [(.s (.x 9))] 9 1
 (.app (.x 10) (.x 13) 1 16 9
 (.load (.lt (.c 0) (.c 1)) (.el (.x 6) (.c 2) 1 0) 1 [(.s (.x 10))] ⟨0,0,1,0,0,0⟩
 (.need (.lt (.c 0) (.c 1)) (.X (.c 2) (.x 6))
 (.callK (.lt (.c 0) (.c 1)) [((.lt (.c 0) (.c 1)),(.el (.x 6) (.c 2) 1 0),1)] 29 [.S 10] (.p (.B 0)) ⟨0,1,0,0,0,0⟩
 (.ret (.tup [(.agg [(.sl (.x 0)),(.sl (.x 1)),.J 0,.J 1,.J 2,.J 3,.J 4,.J 5,(.sl (.x 2)),(.sl (.x 12)),(.sl (.x 14)),(.s (.x 0)),(.sl (.x 5))]),(.one (.b (.and (.lt (.c 0) (.c 1)) (.x 0))))]))))))))))))))
 (.N (.X (.c 0) (.x 6))
 (.O (.el (.x 6) (.c 0) 1 0) 1 [(.s (.x 8))] ⟨0,0,1,0,0,0⟩
 (.ite (.eqS (.x 8) (.c [100,111,119,110]))
 (.mk [.J 7,(.i .i64 (.c 2)),(.i .i64 (.c 0))] 53 1
 (.app (.x 8) (.x 11) 3 24 53
 (.N (.X (.c 2) (.x 6))
 (.O (.el (.x 6) (.c 2) 1 0) 1 [(.s (.x 9))] ⟨0,0,1,0,0,0⟩
 (.mk [(.s (.x 9))] 9 1
 (.app (.x 10) (.x 13) 1 16 9
 (.load (.lt (.c 0) (.c 2)) (.el (.x 6) (.c 2) 1 0) 1 [(.s (.x 10))] ⟨0,0,1,0,0,0⟩
 (.need (.lt (.c 0) (.c 2)) (.X (.c 2) (.x 6))
 (.callK (.lt (.c 0) (.c 2)) [((.lt (.c 0) (.c 2)),(.el (.x 6) (.c 2) 1 0),1)] 29 [.S 10] (.p (.B 0)) ⟨0,1,0,0,0,0⟩
 (.ret (.tup [(.agg [(.sl (.x 0)),(.sl (.x 1)),.J 0,.J 1,.J 2,.J 3,.J 4,.J 5,(.sl (.x 2)),(.sl (.x 12)),(.sl (.x 14)),(.s (.x 0)),(.sl (.x 5))]),(.one (.b (.and (.lt (.c 0) (.c 2)) (.x 0))))])))))))))))
 (.mk [.J 7,(.i .i64 (.c 0)),(.i .i64 (.c 0))] 53 1
 (.app (.x 8) (.x 11) 3 24 53
 (.N (.X (.c 2) (.x 6))
 (.O (.el (.x 6) (.c 2) 1 0) 1 [(.s (.x 9))] ⟨0,0,1,0,0,0⟩
 (.mk [(.s (.x 9))] 9 1
 (.app (.x 10) (.x 13) 1 16 9
 (.load (.lt (.c 0) (.c 0)) (.el (.x 6) (.c 2) 1 0) 1 [(.s (.x 10))] ⟨0,0,1,0,0,0⟩
 (.need (.lt (.c 0) (.c 0)) (.X (.c 2) (.x 6))
 (.callK (.lt (.c 0) (.c 0)) [((.lt (.c 0) (.c 0)),(.el (.x 6) (.c 2) 1 0),1)] 29 [.S 10] (.p (.B 0)) ⟨0,1,0,0,0,0⟩
 (.ret (.tup [(.agg [(.sl (.x 0)),(.sl (.x 1)),.J 0,.J 1,.J 2,.J 3,.J 4,.J 5,(.sl (.x 2)),(.sl (.x 12)),(.sl (.x 14)),(.s (.x 0)),(.sl (.x 5))]),(.one (.b (.and (.lt (.c 0) (.c 0)) (.x 0))))])))))))))))))))))
 (.N (.X (.c 0) (.x 6))
 (.O (.el (.x 6) (.c 0) 1 0) 1 [(.s (.x 7))] ⟨0,0,1,0,0,0⟩
 (.ite (.eqS (.x 7) (.c [102,117,101,108]))
 (.ret (.tup [(.agg [(.sl (.x 0)),(.sl (.x 1)),.J 7,.J 1,.J 2,.J 3,.J 4,.J 5,(.sl (.x 2)),(.sl (.x 3)),(.sl (.x 4)),(.s (.x 0)),(.sl (.x 5))]),(.one (.b (.c true)))]))
 (.ite (.eqS (.x 7) (.c [104,101,97,112]))
 (.ret (.tup [(.agg [(.sl (.x 0)),(.sl (.x 1)),.J 0,.J 7,.J 2,.J 3,.J 4,.J 5,(.sl (.x 2)),(.sl (.x 3)),(.sl (.x 4)),(.s (.x 0)),(.sl (.x 5))]),(.one (.b (.c true)))]))
 (.ite (.eqS (.x 7) (.c [115,116,97,99,107]))
 (.ret (.tup [(.agg [(.sl (.x 0)),(.sl (.x 1)),.J 0,.J 1,.J 7,.J 3,.J 4,.J 5,(.sl (.x 2)),(.sl (.x 3)),(.sl (.x 4)),(.s (.x 0)),(.sl (.x 5))]),(.one (.b (.c true)))]))
 (.ite (.eqS (.x 7) (.c [101,118,101,114,121]))
 (.ret (.tup [(.agg [(.sl (.x 0)),(.sl (.x 1)),.J 0,.J 1,.J 2,.J 7,.J 4,.J 5,(.sl (.x 2)),(.sl (.x 3)),(.sl (.x 4)),(.s (.x 0)),(.sl (.x 5))]),(.one (.b (.c true)))]))
 (.ite (.eqS (.x 7) (.c [107,101,101,112]))
 (.ret (.tup [(.agg [(.sl (.x 0)),(.sl (.x 1)),.J 0,.J 1,.J 2,.J 3,.J 7,.J 5,(.sl (.x 2)),(.sl (.x 3)),(.sl (.x 4)),(.s (.x 0)),(.sl (.x 5))]),(.one (.b (.c true)))]))
 (.ite (.eqS (.x 7) (.c [104,111,116]))
 (.ret (.tup [(.agg [(.sl (.x 0)),(.sl (.x 1)),.J 0,.J 1,.J 2,.J 3,.J 4,.J 7,(.sl (.x 2)),(.sl (.x 3)),(.sl (.x 4)),(.s (.x 0)),(.sl (.x 5))]),(.one (.b (.c true)))]))
 (.ite (.eqS (.x 7) (.c [98,97,115,101]))
 (.mk [.J 7,(.i .i64 (.c 3)),(.i .i64 (.c 0))] 53 1
 (.app (.x 8) (.x 11) 3 24 53
 (.mk [(.s (.c []))] 9 1
 (.app (.x 10) (.x 13) 1 16 9
 (.ret (.tup [(.agg [(.sl (.x 0)),(.sl (.x 1)),.J 0,.J 1,.J 2,.J 3,.J 4,.J 5,(.sl (.x 2)),(.sl (.x 12)),(.sl (.x 14)),(.s (.x 0)),(.sl (.x 5))]),(.one (.b (.c true)))]))))))
 (.ret (.tup [(.agg [(.sl (.x 0)),(.sl (.x 1)),.J 0,.J 1,.J 2,.J 3,.J 4,.J 5,(.sl (.x 2)),(.sl (.x 3)),(.sl (.x 4)),(.s (.x 0)),(.sl (.x 5))]),(.one (.b (.c false)))])))))))))))))))))))))))))))))))
theorem EI:df ⟨true,[]⟩ Tryz.prog (fun l=>([⟨[9,56],[57,58,10,59,60,61,62,63,64,65,66],[]⟩]:List dL).getD l ⟨[],[],[]⟩) Tryz.f18=gy:=by kernel_rfl
theorem Jk:aX Tryz.prog .zero Tryz.f18.params.toList=some ([(.agg [(.sl (.x 0)),(.sl (.x 1)),.J 0,.J 1,.J 2,.J 3,.J 4,.J 5,(.sl (.x 2)),(.sl (.x 3)),(.sl (.x 4)),(.s (.x 0)),(.sl (.x 5))]),.S 1],⟨6,0,2,0,6,0⟩):=by kernel_rfl
theorem Nu {E:Env} {C:Ctx} {xe ye:LE} {sz bytes n:Nat} {T:TypeId} {f:Fm} {sl y:bg} {xs ys:List Value} {h:Hp} (hx:xe.den C=sl) (hy:ye.den C=y) (O:bJ h sl xs T sz) (R:Row h y ys n sz)
 (hC:C.h=h) (ho:dZ ys) (hn:sl.n+n≤2000000) (hby:bytes≤64)
 (hk:∀ s' k,bJ k s' (xs++ys) T sz→s'.n=sl.n+n→(∀ z,s'.a=some z→(∃ y,sl.a=some y∧y.1=z.1)∨h z.1=none)→(∀ b o,(∀ x,sl.a=some x→x.1≠b)→h b=some o→k b=some o)→
  Then E f ((C.push ⟨[],[],[],[],[s'],[]⟩).heap k)):(Fm.app xe ye sz bytes T f).says E C:=by
 have hm:(2000001:Nat)≤maxLen:=by decide
 rw[fG,hx,hy,hC,R.cnt]
 refine⟨xs,ys,O,R.rd,ho,by omega,?_,fun s' k g1 g2 g3 g4=>hk s' k g1 g2 g3 g4⟩
 have:(sl.n+n)*bytes≤2000000*64:=Nat.mul_le_mul hn hby
 omega
theorem ug {h:Hp} {b:Nat} (T:TypeId) (sz:Nat):bJ (h.set b ⟨[],T⟩) ⟨some (b,0),0,0⟩ [] T sz:=.inr ⟨b,_,rfl,ax _ _ _,rfl,by simp,Nat.le_refl _,Nat.zero_le _,by simp⟩
theorem Bi.rows {h k:Hp} {q:Ss} {x:gu} (S:Bi h q x) (hl:dm h k) {a n:bg} {al:List (Int×Int×Int)} {ns:List (List UInt8)} (Oa:bJ k a (eP al) JQ 3) (ha:a.n=al.length) (On:bJ k n (bZ ns) NT 1) (hn:n.n=ns.length):
 Bi k { q with a:=a,n:=n } { x with acts:=al,names:=ns }:=
 ⟨jG S.i hl,S.i',jG S.d hl,S.d',jG S.e hl,S.e',Oa,ha,On,hn,S.l,S.l'⟩
def U5 (args:List Value) (h:Hp) (φ:Value→Hp→Prop):Prop:=∃ q x l,args=[.agg (bz q x).toArray,.string (B l)]∧Bi h q x∧l.length≤100000∧x.acts.length≤500000∧x.names.length≤500000∧
 (∀ y,gZ gU x l=some y→∀ q' k,dm h k→Bi k q' y→φ (.tuple #[.agg (bz q' y).toArray,.bool true]) k)∧
 (gZ gU x l=none→∀ q' y k,dm h k→φ (.tuple #[.agg (bz q' y).toArray,.bool false]) k)
def UY (h:Hp) (q:Ss) (x:gu) (l:List UInt8):Nat→Ctx→Prop:=fun _ C=>
 ∃ (j:Nat) (ok:Bool) (w2 w3 w4 w5 w6:List UInt8) (sl s1 lit cur:bg) (hh k1:Hp) (ns:List Int),C=⟨[x.fuel,x.heap,x.stack,x.every,x.keep,x.hot,(j:Int)],[ok],[x.src,l,w2,w3,w4,w5,w6],[],[q.i,q.d,q.e,q.a,q.n,q.l,sl,s1,lit,cur],[],hh,dY⟩∧
  dm k1 hh∧dm h k1∧(∀ z,cur.a=some z→k1 z.1=none)∧bJ hh cur (dQ (ns.take j)) IT' 1∧cur.n=j∧j≤ns.length∧ns.length≤200001∧Row k1 s1 (dQ ns) ns.length 1∧
  (ok=true→gZ gU x l=some { x with evict:=ns })∧(ok=false→gZ gU x l=none)
def OX:Nat→Ctx→Nat:=fun _ C=>(C.l.getD 7 ⟨none,0,0⟩).n - (C.i.getD 6 0).toNat
set_option maxHeartbeats 16000000 in
def yj:Ct Tryz.prog where
 f:=18
 spec:=U5
 ok:=by
  rintro args h φ w ⟨q,x,l,rfl,S,hl,hla,hln,hφ,hψ⟩ hH
  refine dD Tryz.func18 EI Jk [rW,yg,GU,xg] φ (UY h q x l) (OX) ⟨[x.fuel,x.heap,x.stack,x.every,x.keep,x.hot],[],[x.src,l],[],[q.i,q.d,q.e,q.a,q.n,q.l],[],h,dY⟩ ⟨rfl,rfl,rfl,rfl,rfl,rfl⟩ af ?_ w hH rfl
  generalize hE:(⟨aB _,_,_,_⟩:Env)=E
  have s_ctRSplit:E.spec 40=(rW).spec:=by rw[← hE];rfl
  have s_ctRNumbers:E.spec 41=(yg).spec:=by rw[← hE];rfl
  have s_ctRSmall:E.spec 42=(GU).spec:=by rw[← hE];rfl
  have s_ctRName:E.spec 29=(xg).spec:=by rw[← hE];rfl
  have ep:E.post=φ:=by rw[← hE]
  have ei:E.inv=(UY h q x l):=by rw[← hE]
  have em:E.meas=(OX):=by rw[← hE]
  clear hE
  unfold gy
  obtain⟨hz1,hz2⟩:=o9 32 l
  rw[ak,if_pos (by rfl),s_ctRSplit]
  refine⟨l,32,rfl,by omega,fun s0 h1 hle1 _ O1 hsn1=>?_⟩
  obtain⟨wd,r,hL⟩:∃ wd r,aW 32 l=wd::r:=by
   cases hs:aW 32 l with
   | nil=>exact absurd hs (jf _ _)
   | cons a t=>exact⟨a,t,rfl⟩
  have hset:=OZ (nm:=gU) (x:=x) hL
  rw[hL] at hz1 hz2 O1 hsn1
  have hsn:s0.n=r.length+1:=hsn1
  have R1:Row h1 s0 (bZ (wd::r)) (wd::r).length 1:=Row.eu O1 hsn1
  have hcp:=OM O1
  have hns:=R1.nns (by simp)
  have S1:=S.le hle1
  have Rr:Row h1 (⟨if s0.c=1 then s0.a else s0.a.map fun x=>(x.1,x.2+1*1),r.length+1 - 1,s0.c - 1⟩) (bZ r) r.length 1:=by
   have:=R1.part hcp (a:=1) (b:=r.length+1) (by omega) (by simp)
   have e:((wd::r).drop 1).take (r.length+1 - 1)=r:=by simp
   rw[e] at this
   exact this
  have hsub:∀ C:Ctx,C.l.getD 6 ⟨none,0,0⟩=s0→LE.den C (.sub (.x 6) (.c 1) (.cnt (.x 6)) 1)=⟨if s0.c=1 then s0.a else s0.a.map fun x=>(x.1,x.2+1*1),r.length+1 - 1,s0.c - 1⟩:=fun C hc=>
   ut hc rfl (by show ((C.l.getD 6 ⟨none,0,0⟩).n:Int)=_;rw[hc,hsn])
  refine⟨fun h=>(by cases h),(ah _ _).2 ⟨⟨[],[],[],[],[s0],[]⟩,rfl,af,rfl,?_⟩⟩
  rw[ae,ag];refine⟨by simp[go_sem,hsn,hns]<;>omega,?_⟩
  rw[ae,au,if_pos (by rfl)]
  refine (ah _ _).2 ⟨⟨[],[],[wd],[],[],[]⟩,rfl,af,R1.str (l:=wd::r) (k:=0) rfl,?_⟩
  by_cases e1:wd=qx
  · rw[if_pos e1] at hset
    have c1:wd=[105,110]:=e1
    rw[ae,ag];refine⟨by simp[go_sem,c1]<;>omega,?_⟩
    rw[ae,au,if_neg (by simp[go_sem,c1])]
    rw[ae,ag];refine⟨by simp[go_sem,c1]<;>omega,?_⟩
    rw[ae,au,if_neg (by simp[go_sem,c1])]
    rw[ae,ai,if_pos (by simp[go_sem,c1])]
    rw[ae,ag];refine⟨by simp[go_sem,hsn];omega,?_⟩
    have fin:∀ (ok:Bool) (ns:List Int) (s':bg) (k:Hp),dm h1 k→(∀ z,s'.a=some z→h1 z.1=none)→bJ k s' (dQ ns) I6 1→s'.n=ns.length→ns.length≤r.length→(ok=true→numsOf r=some ns)→(ok=false→numsOf r=none)→
     Then E gy.k.k.k.k.k.k.k.k.k.k ⟨[x.fuel,x.heap,x.stack,x.every,x.keep,x.hot],[ok],[x.src,l,wd,[],[]],[],[q.i,q.d,q.e,q.a,q.n,q.l,s0,s'],[],k,dY⟩:=by
     intro ok ns s' k hk hf o1 n1 hnl hy hno
     have W:=S1.le hk
     have hhk:dm h k:=fun c o hc=>hk c o (hle1 c o hc)
     have R2:=R1.le hk
     dsimp only[gy,Fm.k,Fm.e]
     rw[ae,ag];refine⟨by simp[go_sem,hsn,hns]<;>omega,?_⟩
     rw[ae,au,if_pos (by rfl)]
     refine (ah _ _).2 ⟨⟨[],[],[wd],[],[],[]⟩,rfl,af,R2.str (l:=wd::r) (k:=0) rfl,?_⟩
     rw[ae,ai,if_pos (by simp[go_sem,c1])]
     rw[ae,aj,ep]
     have W2:Bi k { q with i:=s' } { x with ins:=ns }:=⟨o1,n1,W.d,W.d',W.e,W.e',W.a,W.a',W.n,W.n',W.l,W.l'⟩
     cases ok with
     | true=>exact hφ { x with ins:=ns } (by rw[hset,hy rfl];rfl) { q with i:=s' } k hhk W2
     | false=>exact hψ (by rw[hset,hno rfl];rfl) { q with i:=s' } { x with ins:=ns } k hhk
    rw[ae,ak,if_pos (by rfl),s_ctRNumbers]
    refine⟨_,r,rfl,(by rw[hsub _ rfl];exact Rr),by simp at hz1;omega,fun y hy=>by have:=hz2 y (by simp[hy]);omega,fun ns hns s' k hk hf o1 n1=>?_,fun hnone ns s' k hk hf o1 n1 hnl=>?_⟩
    · exact⟨fun h=>(by cases h),(ah _ _).2 ⟨⟨[],[true],[],[],[s'],[]⟩,rfl,af,rfl,fin true ns s' k hk hf o1 n1 (by have:=iT hns;omega) (fun _=>hns) (fun h=>by cases h)⟩⟩
    · exact⟨fun h=>(by cases h),(ah _ _).2 ⟨⟨[],[false],[],[],[s'],[]⟩,rfl,af,rfl,fin false ns s' k hk hf o1 n1 hnl (fun h=>by cases h) (fun _=>hnone)⟩⟩
  rw[if_neg e1] at hset
  by_cases e2:wd=eG
  · rw[if_pos e2] at hset
    have c1:¬ wd=[105,110]:=e1
    have c2:wd=[100,114,97,119]:=e2
    rw[ae,ag];refine⟨by simp[go_sem,hsn,hns,c2]<;>omega,?_⟩
    rw[ae,au,if_pos (by simp[go_sem,c2])]
    refine (ah _ _).2 ⟨⟨[],[],[wd],[],[],[]⟩,rfl,af,R1.str (l:=wd::r) (k:=0) rfl,?_⟩
    rw[ae,ag];refine⟨by simp[go_sem,c2]<;>omega,?_⟩
    rw[ae,au,if_neg (by simp[go_sem,c2])]
    rw[ae,ai,if_pos (by simp[go_sem,c2])]
    rw[ae,ag];refine⟨by simp[go_sem,hsn];omega,?_⟩
    have fin:∀ (ok:Bool) (ns:List Int) (s':bg) (k:Hp),dm h1 k→(∀ z,s'.a=some z→h1 z.1=none)→bJ k s' (dQ ns) I6 1→s'.n=ns.length→ns.length≤r.length→(ok=true→numsOf r=some ns)→(ok=false→numsOf r=none)→
     Then E gy.k.k.k.k.k.k.k.k.k.k ⟨[x.fuel,x.heap,x.stack,x.every,x.keep,x.hot],[ok],[x.src,l,wd,wd,[]],[],[q.i,q.d,q.e,q.a,q.n,q.l,s0,s'],[],k,dY⟩:=by
     intro ok ns s' k hk hf o1 n1 hnl hy hno
     have W:=S1.le hk
     have hhk:dm h k:=fun c o hc=>hk c o (hle1 c o hc)
     have R2:=R1.le hk
     dsimp only[gy,Fm.k,Fm.e]
     rw[ae,ag];refine⟨by simp[go_sem,hsn,hns]<;>omega,?_⟩
     rw[ae,au,if_pos (by rfl)]
     refine (ah _ _).2 ⟨⟨[],[],[wd],[],[],[]⟩,rfl,af,R2.str (l:=wd::r) (k:=0) rfl,?_⟩
     rw[ae,ai,if_neg (by simp[go_sem,c2])]
     rw[ae,ag];refine⟨by simp[go_sem,hsn,hns]<;>omega,?_⟩
     rw[ae,au,if_pos (by rfl)]
     refine (ah _ _).2 ⟨⟨[],[],[wd],[],[],[]⟩,rfl,af,R2.str (l:=wd::r) (k:=0) rfl,?_⟩
     rw[ae,ai,if_pos (by simp[go_sem,c2])]
     rw[ae,aj,ep]
     have W2:Bi k { q with d:=s' } { x with draws:=ns }:=⟨W.i,W.i',o1,n1,W.e,W.e',W.a,W.a',W.n,W.n',W.l,W.l'⟩
     cases ok with
     | true=>exact hφ { x with draws:=ns } (by rw[hset,hy rfl];rfl) { q with d:=s' } k hhk W2
     | false=>exact hψ (by rw[hset,hno rfl];rfl) { q with d:=s' } { x with draws:=ns } k hhk
    rw[ae,ak,if_pos (by rfl),s_ctRNumbers]
    refine⟨_,r,rfl,(by rw[hsub _ rfl];exact Rr),by simp at hz1;omega,fun y hy=>by have:=hz2 y (by simp[hy]);omega,fun ns hns s' k hk hf o1 n1=>?_,fun hnone ns s' k hk hf o1 n1 hnl=>?_⟩
    · exact⟨fun h=>(by cases h),(ah _ _).2 ⟨⟨[],[true],[],[],[s'],[]⟩,rfl,af,rfl,fin true ns s' k hk hf o1 n1 (by have:=iT hns;omega) (fun _=>hns) (fun h=>by cases h)⟩⟩
    · exact⟨fun h=>(by cases h),(ah _ _).2 ⟨⟨[],[false],[],[],[s'],[]⟩,rfl,af,rfl,fin false ns s' k hk hf o1 n1 hnl (fun h=>by cases h) (fun _=>hnone)⟩⟩
  rw[if_neg e2] at hset
  by_cases e3:wd=dP
  · rw[if_pos e3] at hset
    have c1:¬ wd=[105,110]:=e1
    have c2:¬ wd=[100,114,97,119]:=e2
    have c3:wd=[101,118,105,99,116]:=e3
    rw[ae,ag];refine⟨by simp[go_sem,hsn,hns,c3]<;>omega,?_⟩
    rw[ae,au,if_pos (by simp[go_sem,c3])]
    refine (ah _ _).2 ⟨⟨[],[],[wd],[],[],[]⟩,rfl,af,R1.str (l:=wd::r) (k:=0) rfl,?_⟩
    rw[ae,ag];refine⟨by simp[go_sem,hsn,hns,c3]<;>omega,?_⟩
    rw[ae,au,if_pos (by simp[go_sem,c3])]
    refine (ah _ _).2 ⟨⟨[],[],[wd],[],[],[]⟩,rfl,af,R1.str (l:=wd::r) (k:=0) rfl,?_⟩
    rw[ae,ai,if_pos (by simp[go_sem,c3])]
    rw[ae,ag];refine⟨by simp[go_sem,hsn];omega,?_⟩
    have fin:∀ (ok:Bool) (ns:List Int) (s':bg) (k:Hp),dm h1 k→(∀ z,s'.a=some z→h1 z.1=none)→bJ k s' (dQ ns) I6 1→s'.n=ns.length→ns.length≤r.length→(ok=true→numsOf r=some ns)→(ok=false→numsOf r=none)→
     Then E gy.k.k.k.k.k.k.k.k.k.k ⟨[x.fuel,x.heap,x.stack,x.every,x.keep,x.hot],[ok],[x.src,l,wd,wd,wd],[],[q.i,q.d,q.e,q.a,q.n,q.l,s0,s'],[],k,dY⟩:=by
     intro ok ns s' k hk hf o1 n1 hnl hy hno
     have W:=S1.le hk
     have hhk:dm h k:=fun c o hc=>hk c o (hle1 c o hc)
     have R2:=R1.le hk
     dsimp only[gy,Fm.k,Fm.e]
     rw[ae,ag];refine⟨by simp[go_sem,hsn,hns]<;>omega,?_⟩
     rw[ae,au,if_pos (by rfl)]
     refine (ah _ _).2 ⟨⟨[],[],[wd],[],[],[]⟩,rfl,af,R2.str (l:=wd::r) (k:=0) rfl,?_⟩
     rw[ae,ai,if_neg (by simp[go_sem,c3])]
     rw[ae,ag];refine⟨by simp[go_sem,hsn,hns]<;>omega,?_⟩
     rw[ae,au,if_pos (by rfl)]
     refine (ah _ _).2 ⟨⟨[],[],[wd],[],[],[]⟩,rfl,af,R2.str (l:=wd::r) (k:=0) rfl,?_⟩
     rw[ae,ai,if_neg (by simp[go_sem,c3])]
     rw[ae,di]
     intro b0 hb0
     have hb0:k b0=none:=hb0
     rw[ae]
     refine aQ ?_ ?_
     · rw[ei]
       exact⟨0,ok,wd,wd,wd,wd,wd,s0,s',⟨some (b0,0),0,0⟩,⟨some (b0,0),0,0⟩,k.set b0 ⟨[],IT'⟩,k,ns,rfl,dF hb0 _,hhk,fun z hz=>(by cases hz;exact hb0),ug IT' 1,rfl,Nat.zero_le _,by omega,Row.eu o1 n1,fun h=>by rw[hset,hy h];rfl,fun h=>by rw[hset,hno h];rfl⟩
     clear R2 W
     rw[ei,em]
     rintro i' bb ss vv ll pp hh M ⟨j,ok1,w2,w3,w4,w5,w6,sl,s1,lit,cur,hh',k1,ns1,hC,hk1,hhk1,hfr,O5,hcn,hj,hl5,R5,hy5,hno5⟩ hM
     cases hC
     have hM':M 0=s1.n - j:=hM
     have htn:=R5.cnt
     by_cases hlt:j<ns1.length
     · have hx:ns1[j]? = some ns1[j]:=List.getElem?_eq_getElem hlt
       have hns5:=R5.nns (by omega)
       rw[ai,if_pos (by simp[go_sem,htn];omega)]
       rw[ae,ag];refine⟨by simp[go_sem,htn,hns5,hlt],?_⟩
       rw[ae,au,if_pos (by rfl)]
       refine (ah _ _).2 ⟨⟨[ns1[j]],[],[],[],[],[]⟩,rfl,af,by simpa[go_sem] using (R5.le hk1).int hx,?_⟩
       rw[ae,di]
       intro b2 hb2
       have hb2:hh b2=none:=hb2
       rw[ae]
       refine dV (h:=hh) (sl:=cur) (xs:=dQ (ns1.take j)) (cs:=dQ [ns1[j]]) (b1:=b2) rfl rfl O5 rfl hb2 rfl (kK _) (by omega) (by decide) fun s2 k2 o3 n3 f3 g3=>?_
       obtain⟨hle2,hfr2⟩:=eQ hk1 hfr f3 g3
       rw[ae,ag];refine⟨by simp[go_sem];omega,?_⟩
       rw[ae,says_again,ei,em]
       have ht:ns1.take (j+1)=ns1.take j++[ns1[j]]:=by simp
       refine⟨⟨j+1,ok1,w2,w3,w4,w5,w6,sl,s1,lit,s2,k2,k1,ns1,rfl,hle2,hhk1,hfr2,by rw[ht,lg];exact o3,by omega,by omega,hl5,R5,hy5,hno5⟩,?_⟩
       show s1.n - (((j:Int)+1).toNat)<M 0
       omega
     · have hie:j=ns1.length:=by omega
       subst hie
       rw[ai,if_neg (by simp[go_sem,htn])]
       rw[ae,aj,ep]
       rw[List.take_length] at O5
       have hhh:dm h hh:=fun c o hc=>hk1 c o (hhk1 c o hc)
       have W:=S.le hhh
       have W2:Bi hh { q with e:=cur } { x with evict:=ns1 }:=⟨W.i,W.i',W.d,W.d',O5,hcn,W.a,W.a',W.n,W.n',W.l,W.l'⟩
       cases ok1 with
       | true=>exact hφ { x with evict:=ns1 } (hy5 rfl) { q with e:=cur } hh hhh W2
       | false=>exact hψ (hno5 rfl) { q with e:=cur } { x with evict:=ns1 } hh hhh
    rw[ae,ak,if_pos (by rfl),s_ctRNumbers]
    refine⟨_,r,rfl,(by rw[hsub _ rfl];exact Rr),by simp at hz1;omega,fun y hy=>by have:=hz2 y (by simp[hy]);omega,fun ns hns s' k hk hf o1 n1=>?_,fun hnone ns s' k hk hf o1 n1 hnl=>?_⟩
    · exact⟨fun h=>(by cases h),(ah _ _).2 ⟨⟨[],[true],[],[],[s'],[]⟩,rfl,af,rfl,fin true ns s' k hk hf o1 n1 (by have:=iT hns;omega) (fun _=>hns) (fun h=>by cases h)⟩⟩
    · exact⟨fun h=>(by cases h),(ah _ _).2 ⟨⟨[],[false],[],[],[s'],[]⟩,rfl,af,rfl,fin false ns s' k hk hf o1 n1 hnl (fun h=>by cases h) (fun _=>hnone)⟩⟩
  rw[if_neg e3] at hset
  have c1:¬ wd=[105,110]:=e1
  have c2:¬ wd=[100,114,97,119]:=e2
  have c3:¬ wd=[101,118,105,99,116]:=e3
  rw[ae,ag];refine⟨by simp[go_sem,hsn,hns]<;>omega,?_⟩
  rw[ae,au,if_pos (by simp[go_sem,c1])]
  refine (ah _ _).2 ⟨⟨[],[],[wd],[],[],[]⟩,rfl,af,R1.str (l:=wd::r) (k:=0) rfl,?_⟩
  rw[ae,ag];refine⟨by simp[go_sem,hsn,hns]<;>omega,?_⟩
  rw[ae,au,if_pos (by simp[go_sem,c1,c2])]
  refine (ah _ _).2 ⟨⟨[],[],[wd],[],[],[]⟩,rfl,af,R1.str (l:=wd::r) (k:=0) rfl,?_⟩
  rw[ae,ai,if_neg (by simp[go_sem,c1,c2,c3])]
  have hno:∀ (bb:Bool) (k:Hp),bb=false→dm h k→gZ gU x l=none→φ (.tuple #[.agg (bz q x).toArray,.bool bb]) k:=fun bb k hb hk hn=>by rw[hb];exact hψ hn q x k hk
  rcases r with _ | ⟨a,r2⟩
  · have hset:gZ gU x l=none:=hset
    rw[ae,ag];refine⟨by simp[go_sem,hsn],?_⟩
    rw[ae,au,if_neg (by simp[go_sem,hsn])]
    rw[ae,ak,if_neg (by simp[go_sem,hsn])]
    rw[ae,ai,if_pos (by simp[go_sem,hsn])]
    rw[ae,aj,ep]
    exact hno false h1 rfl hle1 hset
  have hal:=hz2 a (by simp)
  have hsn:s0.n=r2.length+2:=hsn
  by_cases h3:2≤r2.length
  · have hset:gZ gU x l=none:=by
     rcases r2 with _ | ⟨c,_ | ⟨d,r3⟩⟩
     · simp at h3
     · simp at h3
     · exact hset
    rw[ae,ag];refine⟨by simp[go_sem,hsn];omega,?_⟩
    rw[ae,au,if_neg (by simp[go_sem,hsn];omega)]
    rw[ae,ak,if_neg (by simp[go_sem,hsn];omega)]
    rw[ae,ai,if_pos (by simp[go_sem,hsn];omega)]
    rw[ae,aj,ep]
    exact hno false h1 rfl hle1 hset
  rw[ae,ag];refine⟨by simp[go_sem,hsn,hns]<;>omega,?_⟩
  rw[ae,au,if_pos (by simp[go_sem,hsn];omega)]
  refine (ah _ _).2 ⟨⟨[],[],[a],[],[],[]⟩,rfl,af,R1.str (l:=wd::a::r2) (k:=1) rfl,?_⟩
  rw[ae,ak,if_pos (by simp[go_sem,hsn];omega),s_ctRSmall]
  refine⟨a,rfl,by omega,?_⟩
  refine⟨fun h=>(by cases h),(ah _ _).2 ⟨⟨[numOf a],[],[],[],[],[]⟩,rfl,af,rfl,?_⟩⟩
  by_cases hneg:numOf a<0
  · rw[ae,ai,if_pos (by simp[go_sem,hsn,hneg])]
    rw[ae,aj,ep]
    refine hno false h1 rfl hle1 ?_
    rw[hset]
    rcases r2 with _ | ⟨c,_ | ⟨d,r3⟩⟩
    · show (if numOf a<0 then _ else _)=_
      rw[if_pos hneg]
    · show (if numOf a<0 then _ else _)=_
      rw[if_pos hneg]
    · rfl
  rw[ae,ai,if_neg (by simp[go_sem,hsn];omega)]
  rw[ae,ag];refine⟨by simp[go_sem,hsn,hns]<;>omega,?_⟩
  rw[ae,au,if_pos (by rfl)]
  refine (ah _ _).2 ⟨⟨[],[],[a],[],[],[]⟩,rfl,af,R1.str (l:=wd::a::r2) (k:=1) rfl,?_⟩
  rw[ae,ak,if_pos (by rfl),s_ctRSmall]
  refine⟨a,rfl,by omega,?_⟩
  refine⟨fun h=>(by cases h),(ah _ _).2 ⟨⟨[numOf a],[],[],[],[],[]⟩,rfl,af,rfl,?_⟩⟩
  generalize hN:numOf a=N at *
  rw[ae,di]
  intro b1 hb1
  have hb1:h1 b1=none:=hb1
  rw[ae]
  refine Nu (h:=h1.set b1 ⟨[],JQ⟩) (sl:=⟨some (b1,0),0,0⟩) (y:=q.a) (n:=x.acts.length) (xs:=[]) (ys:=eP x.acts) rfl rfl (ug JQ 3) ((Row.eu S1.a S1.a').le (dF hb1 _)) rfl (jd _) (by simp;omega) (by decide) fun a1 k2 oa na fa ga=>?_
  obtain⟨hle2,hfa⟩:=eQ (h0:=h1) (s:=⟨some (b1,0),0,0⟩) (dF hb1 _) (fun z hz=>by cases hz;exact hb1) fa ga
  have na:a1.n=x.acts.length:=by rw[na];simp
  rw[List.nil_append] at oa
  rw[ae,di]
  intro b2 hb2
  have hb2:k2 b2=none:=hb2
  rw[ae]
  have hleb2:dm h1 (k2.set b2 ⟨[],NT⟩):=fun c o hc=>dF hb2 _ c o (hle2 c o hc)
  have hb2':h1 b2=none:=by
   cases hq:h1 b2 with
   | none=>rfl
   | some o=>rw[hle2 _ _ hq] at hb2;cases hb2
  refine Nu (h:=k2.set b2 ⟨[],NT⟩) (sl:=⟨some (b2,0),0,0⟩) (y:=q.n) (n:=x.names.length) (xs:=[]) (ys:=bZ x.names) rfl rfl (ug NT 1) ((Row.eu S1.n S1.n').le hleb2) rfl (gX _) (by simp;omega) (by decide) fun n1 k3 on nn fn gn=>?_
  obtain⟨hle3,hfn⟩:=eQ (h0:=h1) (s:=⟨some (b2,0),0,0⟩) hleb2 (fun z hz=>by cases hz;exact hb2') fn gn
  have nn:n1.n=x.names.length:=by rw[nn];simp
  rw[List.nil_append] at on
  have oa3:bJ k3 a1 (eP x.acts) JQ 3:=dW (jG oa (dF hb2 _)) (ug NT 1) (fun e=>oN e.symm) gn
  have S3:=S1.le hle3
  clear oa ga fa gn fn hb2 hleb2 hle2
  show Then E _ (⟨[x.fuel,x.heap,x.stack,x.every,x.keep,x.hot,N,N],[],[x.src,l,wd,wd,wd,a,a],[],[q.i,q.d,q.e,q.a,q.n,q.l,s0,⟨some (b1,0),0,0⟩,a1,⟨some (b2,0),0,0⟩,n1],[],k3,dY⟩:Ctx)
  rcases r2 with _ | ⟨c,r3⟩
  · have hset:gZ gU x l=single x wd N:=by
     rw[hset]
     show (if numOf a<0 then none else single x wd (numOf a))=_
     rw[hN,if_neg hneg]
    have hsn:s0.n=2:=hsn
    rw[ae,ai,if_neg (by simp[go_sem,hsn])]
    rw[ae,ag];refine⟨by simp[go_sem,hsn,hns],?_⟩
    rw[ae,au,if_pos (by rfl)]
    refine (ah _ _).2 ⟨⟨[],[],[wd],[],[],[]⟩,rfl,af,(R1.le hle3).str (l:=[wd,a]) (k:=0) rfl,?_⟩
    have hhk3:dm h k3:=fun c o hc=>hle3 c o (hle1 c o hc)
    obtain⟨y1,y2,y3,y4,y5,y6,y7,y8⟩:=Am (x:=x) (wd:=wd) (n:=N)
    by_cases d1:wd=iH
    · rw[ae,ai,if_pos (by simp[go_sem];exact d1)]
      rw[ae,aj,ep]
      exact hφ { x with fuel:=N } (by rw[hset];exact y1 d1) q k3 hhk3 ⟨S3.i,S3.i',S3.d,S3.d',S3.e,S3.e',S3.a,S3.a',S3.n,S3.n',S3.l,S3.l'⟩
    rw[ae,ai,if_neg (by simp[go_sem];exact d1)]
    by_cases d2:wd=iI
    · rw[ae,ai,if_pos (by simp[go_sem];exact d2)]
      rw[ae,aj,ep]
      exact hφ { x with heap:=N } (by rw[hset];exact y2 d2) q k3 hhk3 ⟨S3.i,S3.i',S3.d,S3.d',S3.e,S3.e',S3.a,S3.a',S3.n,S3.n',S3.l,S3.l'⟩
    rw[ae,ai,if_neg (by simp[go_sem];exact d2)]
    by_cases d3:wd=fM
    · rw[ae,ai,if_pos (by simp[go_sem];exact d3)]
      rw[ae,aj,ep]
      exact hφ { x with stack:=N } (by rw[hset];exact y3 d3) q k3 hhk3 ⟨S3.i,S3.i',S3.d,S3.d',S3.e,S3.e',S3.a,S3.a',S3.n,S3.n',S3.l,S3.l'⟩
    rw[ae,ai,if_neg (by simp[go_sem];exact d3)]
    by_cases d4:wd=fK
    · rw[ae,ai,if_pos (by simp[go_sem];exact d4)]
      rw[ae,aj,ep]
      exact hφ { x with every:=N } (by rw[hset];exact y4 d4) q k3 hhk3 ⟨S3.i,S3.i',S3.d,S3.d',S3.e,S3.e',S3.a,S3.a',S3.n,S3.n',S3.l,S3.l'⟩
    rw[ae,ai,if_neg (by simp[go_sem];exact d4)]
    by_cases d5:wd=iJ
    · rw[ae,ai,if_pos (by simp[go_sem];exact d5)]
      rw[ae,aj,ep]
      exact hφ { x with keep:=N } (by rw[hset];exact y5 d5) q k3 hhk3 ⟨S3.i,S3.i',S3.d,S3.d',S3.e,S3.e',S3.a,S3.a',S3.n,S3.n',S3.l,S3.l'⟩
    rw[ae,ai,if_neg (by simp[go_sem];exact d5)]
    by_cases d6:wd=lG
    · rw[ae,ai,if_pos (by simp[go_sem];exact d6)]
      rw[ae,aj,ep]
      exact hφ { x with hot:=N } (by rw[hset];exact y6 d6) q k3 hhk3 ⟨S3.i,S3.i',S3.d,S3.d',S3.e,S3.e',S3.a,S3.a',S3.n,S3.n',S3.l,S3.l'⟩
    rw[ae,ai,if_neg (by simp[go_sem];exact d6)]
    by_cases d7:wd=oh
    · rw[ae,ai,if_pos (by simp[go_sem];exact d7)]
      rw[ae,di]
      intro b3 hb3
      have hb3:k3 b3=none:=hb3
      rw[ae]
      refine dV (h:=k3) (sl:=a1) (xs:=eP x.acts) (cs:=eP [(N,0,3)]) (b1:=b3) rfl rfl oa3 (by simp[go_sem,eP]) hb3 rfl (jd _) (by omega) (by decide) fun a2 k4 oa4 na4 fa4 ga4=>?_
      obtain⟨hle4,hfa4⟩:=eQ hle3 hfa fa4 ga4
      have on4:bJ k4 n1 (bZ x.names) NT 1:=dW on oa3 oN ga4
      have R4:=R1.le hle4
      rw[ae,di]
      intro b4 hb4
      have hb4:k4 b4=none:=hb4
      rw[ae]
      refine dV (h:=k4) (sl:=n1) (xs:=bZ x.names) (cs:=bZ [[]]) (b1:=b4) rfl rfl on4 rfl hb4 rfl (gX _) (by omega) (by decide) fun n2 k5 on5 nn5 fn5 gn5=>?_
      obtain⟨hle5,hfn5⟩:=eQ hle4 hfn fn5 gn5
      have oa5:bJ k5 a2 (eP x.acts++eP [(N,0,3)]) JQ 3:=dW oa4 on4 (fun e=>oN e.symm) gn5
      have hhk:dm h k5:=fun c o hc=>hle5 c o (hle1 c o hc)
      have W5:=S.rows (q:=q) hhk (a:=a2) (n:=n2) (al:=x.acts++[(N,0,3)]) (ns:=x.names++[[]]) (by rw[mX];exact oa5) (by rw[na4,na];simp) (by rw[lh];exact on5) (by rw[nn5,nn];simp)
      show Then E _ (⟨[x.fuel,x.heap,x.stack,x.every,x.keep,x.hot,N,N],[],[x.src,l,wd,wd,wd,a,a,wd],[],[q.i,q.d,q.e,q.a,q.n,q.l,s0,⟨some (b1,0),0,0⟩,a1,⟨some (b2,0),0,0⟩,n1,⟨some (b3,0),1,1⟩,a2,⟨some (b4,0),1,1⟩,n2],[],k5,dY⟩:Ctx)
      rw[ae,aj,ep]
      exact hφ { x with acts:=x.acts++[(N,0,3)],names:=x.names++[[]] } (by rw[hset];exact y7 d7) { q with a:=a2,n:=n2 } k5 hhk W5
    rw[ae,ai,if_neg (by simp[go_sem];exact d7)]
    rw[ae,aj,ep]
    exact hno false k3 rfl hhk3 (by rw[hset];exact y8 d1 d2 d3 d4 d5 d6 d7)
  obtain rfl:r3=[]:=by
   cases r3 with
   | nil=>rfl
   | cons d r4=>simp at h3
  have hset:gZ gU x l=named gU x wd N c:=by
   rw[hset]
   show (if numOf a<0 then none else named gU x wd (numOf a) c)=_
   rw[hN,if_neg hneg]
  have hcl:=hz2 c (by simp)
  have hsn:s0.n=3:=hsn
  have R3:=R1.le hle3
  obtain⟨y1,y2,y3,y4⟩:=Dp (x:=x) (wd:=wd) (n:=N) (a:=c)
  rw[ae,ai,if_pos (by simp[go_sem,hsn])]
  rw[ae,ag];refine⟨by simp[go_sem,hsn,hns],?_⟩
  rw[ae,au,if_pos (by rfl)]
  refine (ah _ _).2 ⟨⟨[],[],[wd],[],[],[]⟩,rfl,af,R3.str (l:=[wd,a,c]) (k:=0) rfl,?_⟩
  by_cases e4:wd=Pi
  · have e5:wd≠lC:=by rw[e4];decide
    rw[ae,ai,if_pos (by simp[go_sem];exact e4)]
    rw[ae,ag];refine⟨by simp[go_sem,hsn,hns],?_⟩
    rw[ae,au,if_pos (by rfl)]
    refine (ah _ _).2 ⟨⟨[],[],[wd],[],[],[]⟩,rfl,af,R3.str (l:=[wd,a,c]) (k:=0) rfl,?_⟩
    rw[ae,ai,if_neg (by simp[go_sem];exact e5)]
    rw[ae,di]
    intro b3 hb3
    have hb3:k3 b3=none:=hb3
    rw[ae]
    refine dV (h:=k3) (sl:=a1) (xs:=eP x.acts) (cs:=eP [(N,0,1)]) (b1:=b3) rfl rfl oa3 (by simp[go_sem,eP]) hb3 rfl (jd _) (by omega) (by decide) fun a2 k4 oa4 na4 fa4 ga4=>?_
    obtain⟨hle4,hfa4⟩:=eQ hle3 hfa fa4 ga4
    have on4:bJ k4 n1 (bZ x.names) NT 1:=dW on oa3 oN ga4
    have R4:=R1.le hle4
    rw[ae,ag];refine⟨by simp[go_sem,hsn,hns],?_⟩
    rw[ae,au,if_pos (by rfl)]
    refine (ah _ _).2 ⟨⟨[],[],[c],[],[],[]⟩,rfl,af,R4.str (l:=[wd,a,c]) (k:=2) rfl,?_⟩
    rw[ae,di]
    intro b4 hb4
    have hb4:k4 b4=none:=hb4
    rw[ae]
    refine dV (h:=k4) (sl:=n1) (xs:=bZ x.names) (cs:=bZ [c]) (b1:=b4) rfl rfl on4 rfl hb4 rfl (gX _) (by omega) (by decide) fun n2 k5 on5 nn5 fn5 gn5=>?_
    obtain⟨hle5,hfn5⟩:=eQ hle4 hfn fn5 gn5
    have oa5:bJ k5 a2 (eP x.acts++eP [(N,0,1)]) JQ 3:=dW oa4 on4 (fun e=>oN e.symm) gn5
    have hhk:dm h k5:=fun c o hc=>hle5 c o (hle1 c o hc)
    have W5:=S.rows (q:=q) hhk (a:=a2) (n:=n2) (al:=x.acts++[(N,0,1)]) (ns:=x.names++[c]) (by rw[mX];exact oa5) (by rw[na4,na];simp) (by rw[lh];exact on5) (by rw[nn5,nn];simp)
    show Then E _ (⟨[x.fuel,x.heap,x.stack,x.every,x.keep,x.hot,N,N],[],[x.src,l,wd,wd,wd,a,a,wd,wd,c],[],[q.i,q.d,q.e,q.a,q.n,q.l,s0,⟨some (b1,0),0,0⟩,a1,⟨some (b2,0),0,0⟩,n1,⟨some (b3,0),1,1⟩,a2,⟨some (b4,0),1,1⟩,n2],[],k5,dY⟩:Ctx)
    rw[ae,au,if_pos (by simp[go_sem])]
    refine (ah _ _).2 ⟨⟨[],[],[c],[],[],[]⟩,rfl,af,(R1.le hle5).str (l:=[wd,a,c]) (k:=2) rfl,?_⟩
    rw[ae,ag];refine⟨by simp[go_sem,hsn,hns],?_⟩
    rw[ae,aN,if_pos (by simp[go_sem]),s_ctRName]
    refine⟨c,rfl,by omega,?_⟩
    refine⟨fun _ _ _=>rfl,(ah _ _).2 ⟨⟨[],[bT uC c],[],[],[],[]⟩,rfl,af,rfl,?_⟩⟩
    rw[ae,aj,ep]
    cases hnm:bT uC c with
    | true=>
      have:=hφ { x with acts:=x.acts++[(N,0,1)],names:=x.names++[c] } (by rw[hset];exact y3 hnm e4) { q with a:=a2,n:=n2 } k5 hhk W5
      exact this
    | false=>
      have:=hψ (by rw[hset];exact y1 hnm) { q with a:=a2,n:=n2 } { x with acts:=x.acts++[(N,0,1)],names:=x.names++[c] } k5 hhk
      exact this
  rw[ae,ai,if_neg (by simp[go_sem];exact e4)]
  rw[ae,ag];refine⟨by simp[go_sem,hsn,hns],?_⟩
  rw[ae,au,if_pos (by rfl)]
  refine (ah _ _).2 ⟨⟨[],[],[wd],[],[],[]⟩,rfl,af,R3.str (l:=[wd,a,c]) (k:=0) rfl,?_⟩
  by_cases e5:wd=lC
  · rw[ae,ai,if_pos (by simp[go_sem];exact e5)]
    rw[ae,di]
    intro b3 hb3
    have hb3:k3 b3=none:=hb3
    rw[ae]
    refine dV (h:=k3) (sl:=a1) (xs:=eP x.acts) (cs:=eP [(N,0,2)]) (b1:=b3) rfl rfl oa3 (by simp[go_sem,eP]) hb3 rfl (jd _) (by omega) (by decide) fun a2 k4 oa4 na4 fa4 ga4=>?_
    obtain⟨hle4,hfa4⟩:=eQ hle3 hfa fa4 ga4
    have on4:bJ k4 n1 (bZ x.names) NT 1:=dW on oa3 oN ga4
    have R4:=R1.le hle4
    rw[ae,ag];refine⟨by simp[go_sem,hsn,hns],?_⟩
    rw[ae,au,if_pos (by rfl)]
    refine (ah _ _).2 ⟨⟨[],[],[c],[],[],[]⟩,rfl,af,R4.str (l:=[wd,a,c]) (k:=2) rfl,?_⟩
    rw[ae,di]
    intro b4 hb4
    have hb4:k4 b4=none:=hb4
    rw[ae]
    refine dV (h:=k4) (sl:=n1) (xs:=bZ x.names) (cs:=bZ [c]) (b1:=b4) rfl rfl on4 rfl hb4 rfl (gX _) (by omega) (by decide) fun n2 k5 on5 nn5 fn5 gn5=>?_
    obtain⟨hle5,hfn5⟩:=eQ hle4 hfn fn5 gn5
    have oa5:bJ k5 a2 (eP x.acts++eP [(N,0,2)]) JQ 3:=dW oa4 on4 (fun e=>oN e.symm) gn5
    have hhk:dm h k5:=fun c o hc=>hle5 c o (hle1 c o hc)
    have W5:=S.rows (q:=q) hhk (a:=a2) (n:=n2) (al:=x.acts++[(N,0,2)]) (ns:=x.names++[c]) (by rw[mX];exact oa5) (by rw[na4,na];simp) (by rw[lh];exact on5) (by rw[nn5,nn];simp)
    show Then E _ (⟨[x.fuel,x.heap,x.stack,x.every,x.keep,x.hot,N,N],[],[x.src,l,wd,wd,wd,a,a,wd,wd,c],[],[q.i,q.d,q.e,q.a,q.n,q.l,s0,⟨some (b1,0),0,0⟩,a1,⟨some (b2,0),0,0⟩,n1,⟨some (b3,0),1,1⟩,a2,⟨some (b4,0),1,1⟩,n2],[],k5,dY⟩:Ctx)
    rw[ae,au,if_pos (by simp[go_sem])]
    refine (ah _ _).2 ⟨⟨[],[],[c],[],[],[]⟩,rfl,af,(R1.le hle5).str (l:=[wd,a,c]) (k:=2) rfl,?_⟩
    rw[ae,ag];refine⟨by simp[go_sem,hsn,hns],?_⟩
    rw[ae,aN,if_pos (by simp[go_sem]),s_ctRName]
    refine⟨c,rfl,by omega,?_⟩
    refine⟨fun _ _ _=>rfl,(ah _ _).2 ⟨⟨[],[bT uC c],[],[],[],[]⟩,rfl,af,rfl,?_⟩⟩
    rw[ae,aj,ep]
    cases hnm:bT uC c with
    | true=>
      have:=hφ { x with acts:=x.acts++[(N,0,2)],names:=x.names++[c] } (by rw[hset];exact y2 hnm e5) { q with a:=a2,n:=n2 } k5 hhk W5
      exact this
    | false=>
      have:=hψ (by rw[hset];exact y1 hnm) { q with a:=a2,n:=n2 } { x with acts:=x.acts++[(N,0,2)],names:=x.names++[c] } k5 hhk
      exact this
  rw[ae,ai,if_neg (by simp[go_sem];exact e5)]
  rw[ae,di]
  intro b3 hb3
  have hb3:k3 b3=none:=hb3
  rw[ae]
  refine dV (h:=k3) (sl:=a1) (xs:=eP x.acts) (cs:=eP [(N,0,0)]) (b1:=b3) rfl rfl oa3 (by simp[go_sem,eP]) hb3 rfl (jd _) (by omega) (by decide) fun a2 k4 oa4 na4 fa4 ga4=>?_
  obtain⟨hle4,hfa4⟩:=eQ hle3 hfa fa4 ga4
  have on4:bJ k4 n1 (bZ x.names) NT 1:=dW on oa3 oN ga4
  have R4:=R1.le hle4
  rw[ae,ag];refine⟨by simp[go_sem,hsn,hns],?_⟩
  rw[ae,au,if_pos (by rfl)]
  refine (ah _ _).2 ⟨⟨[],[],[c],[],[],[]⟩,rfl,af,R4.str (l:=[wd,a,c]) (k:=2) rfl,?_⟩
  rw[ae,di]
  intro b4 hb4
  have hb4:k4 b4=none:=hb4
  rw[ae]
  refine dV (h:=k4) (sl:=n1) (xs:=bZ x.names) (cs:=bZ [c]) (b1:=b4) rfl rfl on4 rfl hb4 rfl (gX _) (by omega) (by decide) fun n2 k5 on5 nn5 fn5 gn5=>?_
  obtain⟨hle5,hfn5⟩:=eQ hle4 hfn fn5 gn5
  have oa5:bJ k5 a2 (eP x.acts++eP [(N,0,0)]) JQ 3:=dW oa4 on4 (fun e=>oN e.symm) gn5
  have hhk:dm h k5:=fun c o hc=>hle5 c o (hle1 c o hc)
  have W5:=S.rows (q:=q) hhk (a:=a2) (n:=n2) (al:=x.acts++[(N,0,0)]) (ns:=x.names++[c]) (by rw[mX];exact oa5) (by rw[na4,na];simp) (by rw[lh];exact on5) (by rw[nn5,nn];simp)
  show Then E _ (⟨[x.fuel,x.heap,x.stack,x.every,x.keep,x.hot,N,N],[],[x.src,l,wd,wd,wd,a,a,wd,wd,c],[],[q.i,q.d,q.e,q.a,q.n,q.l,s0,⟨some (b1,0),0,0⟩,a1,⟨some (b2,0),0,0⟩,n1,⟨some (b3,0),1,1⟩,a2,⟨some (b4,0),1,1⟩,n2],[],k5,dY⟩:Ctx)
  rw[ae,au,if_neg (by simp[go_sem])]
  rw[ae,ag];refine⟨by simp[go_sem],?_⟩
  rw[ae,aN,if_neg (by simp[go_sem])]
  rw[ae,aj,ep]
  have:=hψ (by rw[hset];exact y4 e5 e4) { q with a:=a2,n:=n2 } { x with acts:=x.acts++[(N,0,0)],names:=x.names++[c] } k5 hhk
  exact this
end Go.Proofs.YtgpanefhaiohnaaGreatDoor
namespace Go.Proofs.YtgpanefhaiohnaaGreatDoor
open Go.RowKit
attribute [local go_sem] aZ aY ag ai ak aN au aC aj says_again BE.den IE.den SE.den LE.den AE.den CE.den PE.den VE.den KV.val dw.den dw.cnt iM dU iY allL Ctx.push Ctx.heap Ctx.cut Ctx.bare Ctx.mark Inc.blank List.getD_cons_zero List.getD_cons_succ List.cons_append List.nil_append List.append_nil List.map_cons List.map_nil List.replicate_zero List.replicate_succ aB bQ bu bG bn bY cO aU aT aV bF bD aF aO aH aA ax aS aI bW af and_assoc
def lJ:Fm:=(.ite (.lt (.c 131072) (.len (.x 0)))
 (.ret (.tup [(.agg [(.sl .nil),(.sl .nil),(.i .i64 (.c 0)),(.i .i64 (.c 0)),(.i .i64 (.c 0)),(.i .i64 (.c 0)),(.i .i64 (.c 0)),(.i .i64 (.c 0)),(.sl .nil),(.sl .nil),(.sl .nil),(.s (.c [])),(.sl .nil)]),(.I (.c 0)),(.I (.c 3))]))
 (.C 17 [.S 0] (.p (.L 0)) ⟨0,0,0,0,1,0⟩
 (.loop 0 ⟨[(.c 0),(.c 0),(.c 0),(.c 0),(.c 0),(.c 0),(.c 0),(.c 0),(.c 0),(.c 1000),(.c 1000),(.c 100),(.c 100),(.c 8),(.c 0)],[],[(.c []),(.c [])],[],[.nil,.nil,.nil,.nil,.nil,.nil,.nil,.nil,.nil,.nil,.nil,.nil],[]⟩
 (.need (.lt (.x 2) (.cnt (.x 0))) (.X (.x 2) (.x 0))
 (.load (.lt (.x 2) (.cnt (.x 0))) (.el (.x 0) (.x 2) 1 0) 1 [(.s (.x 3))] ⟨0,0,1,0,0,0⟩
 (.ite (.and (.lt (.x 2) (.cnt (.x 0))) (.not (.eqS (.x 3) (.c [112,114,111,103,114,97,109]))))
 (.O (.el (.x 0) (.x 2) 1 0) 1 [(.s (.x 4))] ⟨0,0,1,0,0,0⟩
 (.N (.X (.x 2) (.x 0))
 (.callK (.c true) [((.c true),(.el (.x 0) (.x 2) 1 0),1)] 18 [(.agg [(.sl (.x 7)),(.sl (.x 8)),.J 9,.J 10,.J 11,.J 12,.J 13,.J 14,(.sl (.x 9)),(.sl (.x 10)),(.sl (.x 11)),(.s (.x 2)),(.sl (.x 12))]),.S 4] (.tup [(.agg [(.sl (.x 13)),(.sl (.x 14)),.J 15,.J 16,.J 17,.J 18,.J 19,.J 20,(.sl (.x 15)),(.sl (.x 16)),(.sl (.x 17)),(.s (.x 5)),(.sl (.x 18))]),.B 0]) ⟨6,1,1,0,6,0⟩
 (.ite (.not (.x 0))
 (.N (.R (.add (.x 2) (.c 1)))
 (.ret (.tup [(.agg [(.sl .nil),(.sl .nil),(.i .i64 (.c 0)),(.i .i64 (.c 0)),(.i .i64 (.c 0)),(.i .i64 (.c 0)),(.i .i64 (.c 0)),(.i .i64 (.c 0)),(.sl .nil),(.sl .nil),(.sl .nil),(.s (.c [])),(.sl .nil)]),(.I (.add (.x 2) (.c 1))),(.I (.c 24))])))
 (.N (.R (.add (.x 2) (.c 1)))
 (.again 0 ⟨0,0,1,0,1,0⟩ ⟨15,0,3,0,13,0⟩ ⟨[(.x 0),(.x 1),(.add (.x 2) (.c 1)),(.x 3),(.x 4),(.x 5),(.x 6),(.x 7),(.x 8),(.x 15),(.x 16),(.x 17),(.x 18),(.x 19),(.x 20)],[],[(.x 1),(.x 5)],[],[(.x 1),(.x 2),(.x 3),(.x 4),(.x 5),(.x 6),(.x 13),(.x 14),(.x 15),(.x 16),(.x 17),(.x 18)],[]⟩))))))
 (.N (.R (.add (.x 2) (.c 1)))
 (.loop 1 ⟨[(.add (.x 2) (.c 1)),(.x 9),(.x 10),(.x 11),(.x 12),(.x 13),(.x 14)],[],[(.x 2)],[],[(.x 7),(.x 8),(.x 9),(.x 10),(.x 11),(.x 12)],[]⟩
 (.need (.lt (.x 15) (.cnt (.x 0))) (.X (.x 15) (.x 0))
 (.load (.lt (.x 15) (.cnt (.x 0))) (.el (.x 0) (.x 15) 1 0) 1 [(.s (.x 5))] ⟨0,0,1,0,0,0⟩
 (.ite (.and (.lt (.x 15) (.cnt (.x 0))) (.not (.eqS (.x 5) (.c [101,110,100]))))
 (.O (.el (.x 0) (.x 15) 1 0) 1 [(.s (.x 6))] ⟨0,0,1,0,0,0⟩
 (.N (.X (.x 15) (.x 0))
 (.N (.le (.add (.len (.x 4)) (.len (.x 6))) (.c 9223372036854775807))
 (.N (.le (.add (.len (.app (.x 4) (.x 6))) (.len (.c [10]))) (.c 9223372036854775807))
 (.N (.R (.add (.x 15) (.c 1)))
 (.again 1 ⟨15,0,4,0,13,0⟩ ⟨22,0,5,0,19,0⟩ ⟨[(.add (.x 15) (.c 1)),(.x 16),(.x 17),(.x 18),(.x 19),(.x 20),(.x 21)],[],[(.app (.app (.x 4) (.x 6)) (.c [10]))],[],[(.x 13),(.x 14),(.x 15),(.x 16),(.x 17),(.x 18)],[]⟩))))))
 (.ite (.le (.cnt (.x 0)) (.x 15))
 (.ret (.tup [(.agg [(.sl .nil),(.sl .nil),(.i .i64 (.c 0)),(.i .i64 (.c 0)),(.i .i64 (.c 0)),(.i .i64 (.c 0)),(.i .i64 (.c 0)),(.i .i64 (.c 0)),(.sl .nil),(.sl .nil),(.sl .nil),(.s (.c [])),(.sl .nil)]),(.I (.c 0)),(.I (.c 15))]))
 (.N (.R (.add (.x 15) (.c 1)))
 (.N (.and (.le (.cnt (.x 0)) (.cap (.x 0))) (.and (.le (.c 0) (.add (.x 15) (.c 1))) (.le (.add (.x 15) (.c 1)) (.cnt (.x 0)))))
 (.ite (.lt (.c 1000) (.cnt (.sub (.x 0) (.add (.x 15) (.c 1)) (.cnt (.x 0)) 1)))
 (.ret (.tup [(.agg [(.sl .nil),(.sl .nil),(.i .i64 (.c 0)),(.i .i64 (.c 0)),(.i .i64 (.c 0)),(.i .i64 (.c 0)),(.i .i64 (.c 0)),(.i .i64 (.c 0)),(.sl .nil),(.sl .nil),(.sl .nil),(.s (.c [])),(.sl .nil)]),(.I (.c 0)),(.I (.c 13))]))
 (.ret (.tup [(.agg [(.sl (.x 13)),(.sl (.x 14)),.J 16,.J 17,.J 18,.J 19,.J 20,.J 21,(.sl (.x 15)),(.sl (.x 16)),(.sl (.x 17)),(.s (.x 4)),(.sl (.sub (.x 0) (.add (.x 15) (.c 1)) (.cnt (.x 0)) 1))]),(.I (.c 0)),(.I (.c 0))])))))))))))))))))
theorem EH:df ⟨true,[]⟩ Tryz.prog (fun l=>([⟨[3,4,8],[22,23,24,25,26,27,28,29,30,31,32,34,35,36,37,38,39,33,40,41,9,10,42,43,44,45,46,47,48,49],[9,2,6]⟩,⟨[11],[52,53,54,55,56,57,58,59,60,61,62,63,64,65,66,67,68,69,70,71,72,73],[6]⟩]:List dL).getD l ⟨[],[],[]⟩) Tryz.f7=lJ:=by kernel_rfl
theorem Jj:aX Tryz.prog .zero Tryz.f7.params.toList=some ([.S 0],⟨0,0,1,0,0,0⟩):=by kernel_rfl
def FH (h1:Hp) (s:List UInt8) (L:List (List UInt8)) (sl:bg) (C:Ctx):Prop:=
 ∃ (a0 a1:Int) (i:Nat) (a3 a4 a5 a6 a7 a8:Int) (s1:List UInt8) (l1 l2 l3 l4 l5 l6:bg) (hh:Hp) (q:Ss) (x:gu),
  C=⟨[a0,a1,(i:Int),a3,a4,a5,a6,a7,a8,x.fuel,x.heap,x.stack,x.every,x.keep,x.hot],[],[s,s1,x.src],[],[sl,l1,l2,l3,l4,l5,l6,q.i,q.d,q.e,q.a,q.n,q.l],[],hh,dY⟩∧dm h1 hh∧Bi hh q x∧
  eY gU x0 0 L=eY gU x i (L.drop i)∧i≤L.length∧x.acts.length≤i∧x.names.length≤i∧x.src=[]
def FI (h1:Hp) (s:List UInt8) (L:List (List UInt8)) (sl:bg) (C:Ctx):Prop:=
 ∃ (a0 a1 a2 a3 a4 a5 a6 a7 a8 b0 b1 b2 b3 b4 b5:Int) (k:Nat) (s1 s2 s3 cur:List UInt8) (l1 l2 l3 l4 l5 l6 m1 m2 m3 m4 m5 m6:bg) (hh:Hp) (q:Ss) (x:gu),
  C=⟨[a0,a1,a2,a3,a4,a5,a6,a7,a8,b0,b1,b2,b3,b4,b5,(k:Int),x.fuel,x.heap,x.stack,x.every,x.keep,x.hot],[],[s,s1,s2,s3,cur],[],[sl,l1,l2,l3,l4,l5,l6,m1,m2,m3,m4,m5,m6,q.i,q.d,q.e,q.a,q.n,q.l],[],hh,dY⟩∧dm h1 hh∧Bi hh q x∧
  ((k=L.length+1∧eY gU x0 0 L=.error (0,15))∨∃ i j,k=i+1+j∧i<L.length∧eY gU x0 0 L=.ok (x,L.drop (i+1))∧k≤L.length∧(∀ t,t<j→(L.drop (i+1))[t]?≠some fD)∧cur=dG ((L.drop (i+1)).take j))
def Yk (h:Hp) (s:List UInt8):Nat→Ctx→Prop:=fun o C=>∃ (h1:Hp) (sl:bg),(if o=0 then FH h1 s (bC s) sl C else FI h1 s (bC s) sl C)∧dm h h1∧Row h1 sl (bZ (bC s)) (bC s).length 1∧sl.n≤sl.c
def U4 (n:Nat):Nat→Ctx→Nat:=fun o C=>if o=0 then n - (C.i.getD 2 0).toNat else n+1 - (C.i.getD 15 0).toNat
set_option maxHeartbeats 8000000 in
def yh:Ct Tryz.prog where
 f:=7
 spec:=fun args h φ=>DD args h φ∧∃ s,args=[.string (B s)]∧s.length≤100000
 ok:=by
  rintro args h φ w ⟨⟨s,rfl,hl,hM,hψ,hφ⟩,s',hs',hl5⟩ hH
  have hs':s'.length=s.length:=by
   have h1:Value.string (B s)=Value.string (B s'):=by injection hs'
   injection h1 with h2
   rw[← dJ s',← h2,dJ]
  have hl5:s.length≤100000:=by omega
  refine dD Tryz.func7 EH Jj [rV,yj] φ (Yk h s) (U4 (bC s).length) ⟨[],[],[s],[],[],[],h,dY⟩ ⟨rfl,rfl,rfl,rfl,rfl,rfl⟩ af ?_ w hH rfl
  generalize hE:(⟨aB _,_,_,_⟩:Env)=E
  have s_ctRLines:E.spec 17=(rV).spec:=by rw[← hE];rfl
  have s_ctRSetting:E.spec 18=(yj).spec:=by rw[← hE];rfl
  have ep:E.post=φ:=by rw[← hE]
  have ei:E.inv=(Yk h s):=by rw[← hE]
  have em:E.meas=(U4 (bC s).length):=by rw[← hE]
  clear hE
  unfold lJ
  have hlong:¬ 131072<s.length:=by omega
  rw[ai,if_neg (by simp[go_sem];omega)]
  rw[ae,ak,if_pos (by rfl),s_ctRLines]
  refine⟨s,rfl,by omega,hM,fun sl h1 hle1 _ hsc R=>?_⟩
  have hle1:dm h h1:=hle1
  refine⟨fun h=>(by cases h),(ah _ _).2 ⟨⟨[],[],[],[],[sl],[]⟩,rfl,af,rfl,?_⟩⟩
  obtain⟨z1,z2⟩:=yS s
  rw[ae]
  refine aQ ?_ ?_
  · rw[ei]
    refine⟨h1,sl,?_,hle1,R,hsc⟩
    show FH h1 s (bC s) sl _
    exact⟨0,0,0,0,0,0,0,0,0,[],iP,iP,iP,iP,iP,iP,h1,qz,x0,rfl,fun _ _ h=>h,⟨fF _ _ _,rfl,fF _ _ _,rfl,fF _ _ _,rfl,fF _ _ _,rfl,fF _ _ _,rfl,rfl,rfl⟩,rfl,Nat.zero_le _,Nat.le_refl _,Nat.le_refl _,rfl⟩
  clear R hsc hle1
  rw[ei,em]
  rintro i' bb ss vv ll pp hh M ⟨h1,sl,⟨a0,a1,i,a3,a4,a5,a6,a7,a8,s1,l1,l2,l3,l4,l5,l6,hh',q,x,hC,hle,W,hhd,hi,hac,hnc,hxs⟩,hle1,RP,hsc⟩ hM'
  cases hC
  have hM0:M 0=(bC s).length - i:=hM'
  have hsn:=RP.cnt
  have R:=RP.le hle
  have hhh:dm h hh:=fun c o hc=>hle c o (hle1 c o hc)
  generalize hLs:bC s=L at *
  have fin:(i=L.length∨L[i]? = some dE)→∀ w3,Then E lJ.e.k.k.k.k.e ⟨[a0,a1,(i:Int),a3,a4,a5,a6,a7,a8,x.fuel,x.heap,x.stack,x.every,x.keep,x.hot],[],[s,s1,x.src,w3],[],[sl,l1,l2,l3,l4,l5,l6,q.i,q.d,q.e,q.a,q.n,q.l],[],hh,M⟩:=by
   intro hstop w3
   dsimp only[lJ,Fm.k,Fm.e]
   rw[ae,ag];refine⟨by simp[go_sem];omega,?_⟩
   rw[ae]
   refine aQ ?_ ?_
   · rw[ei]
     refine⟨h1,sl,?_,hle1,by rw[hLs];exact RP,hsc⟩
     rw[hLs]
     show FI h1 s L sl _
     refine⟨a0,a1,i,a3,a4,a5,a6,a7,a8,x.fuel,x.heap,x.stack,x.every,x.keep,x.hot,i+1,s1,x.src,w3,x.src,l1,l2,l3,l4,l5,l6,q.i,q.d,q.e,q.a,q.n,q.l,hh,q,x,rfl,hle,W,?_⟩
     rcases hstop with h | h
     · exact .inl ⟨by omega,by rw[hhd,h,List.drop_length];rfl⟩
     · have hil:=(List.getElem?_eq_some_iff.1 h).1
       exact .inr ⟨i,0,rfl,hil,by rw[hhd,yO h],by omega,fun t ht=>by omega,by rw[hxs];rfl⟩
   clear RP hsc hle1 hle W hhd R hsn hac hnc hxs hM0 hM' hstop hi hhh
   rw[ei,em]
   rintro i' bb ss vv ll pp hh5 M5 ⟨h5,sl5,hI,hle5,RP5,hsc5⟩ hM5
   rw[hLs] at hI RP5
   obtain⟨a0,a1,a2,a3,a4,a5,a6,a7,a8,b0,b1,b2,b3,b4,b5,k,s1,s2,s3,cur,l1,l2,l3,l4,l5,l6,m1,m2,m3,m4,m5,m6,hh',q,x,hC,hle',W',hst⟩:=hI
   cases hC
   have hM1:M5 1=L.length+1 - k:=hM5
   have hsn:=RP5.cnt
   have hhh:dm h hh5:=fun c o hc=>hle' c o (hle5 c o hc)
   rcases hst with ⟨hk,herr⟩ | ⟨i2,j,hk,hi2,hok,hkl,hno,hcur⟩
   · subst hk
     rw[ag];refine⟨by simp[go_sem,hsn];omega,?_⟩
     rw[ae,au,if_neg (by simp[go_sem,hsn];omega)]
     rw[ae,ai,if_neg (by simp[go_sem,hsn];omega)]
     rw[ae,ai,if_pos (by simp[go_sem,hsn];omega)]
     rw[ae,aj,ep]
     exact hψ 0 15 (xy hlong (by rw[hLs];exact herr)) qz hh5 hhh (um _)
   · have hdl:(L.drop (i2+1)).length=L.length - (i2+1):=by simp
     by_cases hlt:k<L.length
     · have hx:L[k]? = some L[k]:=List.getElem?_eq_getElem hlt
       have hxj:(L.drop (i2+1))[j]? = some L[k]:=by rw[List.getElem?_drop,← hk,hx]
       have hxl':=z2 L[k] (List.getElem_mem hlt)
       have hns:=RP5.nns (by omega)
       have R:=RP5.le hle'
       rw[ag];refine⟨by simp[go_sem,hsn,hns,hlt],?_⟩
       rw[ae,au,if_pos (by simp[go_sem,hsn,hlt])]
       refine (ah _ _).2 ⟨⟨[],[],[L[k]],[],[],[]⟩,rfl,af,by simpa[go_sem] using R.str hx,?_⟩
       by_cases hen:L[k]=fD
       · have hen':L[k]=[101,110,100]:=hen
         have hsrc:=O3 (r:=L.drop (i2+1)) (e:=j) (by rw[hxj,hen]) hno []
         rw[List.nil_append,← hcur] at hsrc
         rw[ae,ai,if_neg (by simp[go_sem,hsn,hen'])]
         rw[ae,ai,if_neg (by simp[go_sem,hsn];omega)]
         rw[ae,ag];refine⟨by simp[go_sem];omega,?_⟩
         rw[ae,ag];refine⟨by simp[go_sem,hsn];omega,?_⟩
         have hdd:(L.drop (k+1)).take (L.length - (k+1))=(L.drop (i2+1)).drop (j+1):=by rw[List.take_of_length_le (by simp),List.drop_drop];congr 1;omega
         have hsd:∀ C:Ctx,C.l.getD 0 ⟨none,0,0⟩=sl5→C.i.getD 15 0=(k:Int)→
          LE.den C (.sub (.x 0) (.add (.x 15) (.c 1)) (.cnt (.x 0)) 1)=⟨if sl5.c=k+1 then sl5.a else sl5.a.map fun x=>(x.1,x.2+(k+1)*1),L.length - (k+1),sl5.c - (k+1)⟩:=fun C c1 c2=>
          ut c1 (by show C.i.getD 15 0+1=_;rw[c2];omega) (by show ((C.l.getD 0 ⟨none,0,0⟩).n:Int)=_;rw[c1,hsn])
         have R4:=R.part hsc5 (a:=k+1) (b:=L.length) (by omega) (Nat.le_refl _)
         rw[hdd] at R4
         have hrl:((L.drop (i2+1)).drop (j+1)).length=L.length - (k+1):=by simp;omega
         by_cases hbig:1000<((L.drop (i2+1)).drop (j+1)).length
         · rw[ae,ai,if_pos (by simp only[BE.den,IE.den];rw[hsd _ rfl rfl];simp[go_sem];omega)]
           rw[ae,aj,ep]
           exact hψ 0 13 (Jf hlong (by rw[hLs];exact hok) hsrc hbig) qz hh5 hhh (um _)
         · rw[ae,ai,if_neg (by simp only[BE.den,IE.den];rw[hsd _ rfl rfl];simp[go_sem];omega)]
           rw[ae,aj,ep]
           have hg:∀ S:bg,S=⟨if sl5.c=k+1 then sl5.a else sl5.a.map fun x=>(x.1,x.2+(k+1)*1),L.length - (k+1),sl5.c - (k+1)⟩→
            φ (.tuple #[.agg (bz { q with l:=S } { x with src:=cur,lines:=(L.drop (i2+1)).drop (j+1) }).toArray,.int .i64 0,.int .i64 0]) hh5:=by
            rintro _ rfl
            exact hφ _ (Uy hlong (by rw[hLs];exact hok) hsrc hbig) _ hh5 hhh ⟨Row.eu W'.i W'.i',Row.eu W'.d W'.d',Row.eu W'.e W'.e',Row.eu W'.a W'.a',Row.eu W'.n W'.n',R4⟩
           exact hg _ (hsd _ rfl rfl)
       · have hen':¬ L[k]=[101,110,100]:=hen
         rw[ae,ai,if_pos (by simp[go_sem,hsn,hen',hlt])]
         rw[ae,au,if_pos (by rfl)]
         refine (ah _ _).2 ⟨⟨[],[],[L[k]],[],[],[]⟩,rfl,af,by simpa[go_sem] using R.str hx,?_⟩
         rw[ae,ag];refine⟨by simp[go_sem,hsn,hns,hlt],?_⟩
         have hjl:cur.length≤s.length+1:=by
          have h7:=jl (L.drop (i2+1)) j
          have h8:=sZ L (i2+1)
          have h9:=uS s
          rw[hLs] at h9
          rw[hcur];omega
         rw[ae,ag];refine⟨by simp[go_sem];omega,?_⟩
         rw[ae,ag];refine⟨by simp[go_sem];omega,?_⟩
         rw[ae,ag];refine⟨by simp[go_sem];omega,?_⟩
         rw[ae,says_again,ei,em]
         refine⟨⟨h5,sl5,?_,hle5,by rw[hLs];exact RP5,hsc5⟩,?_⟩
         · rw[hLs]
           show FI h5 s L sl5 _
           refine⟨a0,a1,a2,a3,a4,a5,a6,a7,a8,b0,b1,b2,b3,b4,b5,k+1,s1,s2,s3,cur++L[k]++[10],l1,l2,l3,l4,l5,l6,m1,m2,m3,m4,m5,m6,hh5,q,x,rfl,hle',W',.inr ⟨i2,j+1,by omega,hi2,hok,by omega,fun t ht=>?_,?_⟩⟩
           · by_cases e:t=j
             · rw[e,hxj];intro h;exact hen (Option.some.inj h)
             · exact hno t (by omega)
           · rw[hcur,List.append_assoc,← dS,List.take_add_one,hxj];rfl
         · show L.length+1 - (((k:Int)+1).toNat)<M5 1
           omega
     · have hke:k=L.length:=by omega
       rw[ag];refine⟨by simp[go_sem,hsn];omega,?_⟩
       rw[ae,au,if_neg (by simp[go_sem,hsn];omega)]
       rw[ae,ai,if_neg (by simp[go_sem,hsn];omega)]
       rw[ae,ai,if_pos (by simp[go_sem,hsn];omega)]
       rw[ae,aj,ep]
       refine hψ 0 15 (Jg hlong (by rw[hLs];exact hok) (vO _ _ fun y hy e=>?_)) qz hh5 hhh (um _)
       obtain⟨t,ht,hte⟩:=List.getElem_of_mem hy
       exact hno t (by omega) (by rw[List.getElem?_eq_getElem ht,hte,e])
  by_cases hlt:i<L.length
  · have hx:L[i]? = some L[i]:=List.getElem?_eq_getElem hlt
    have hxl':=z2 L[i] (List.getElem_mem hlt)
    have hns:=RP.nns (by omega)
    rw[ag];refine⟨by simp[go_sem,hsn,hns,hlt],?_⟩
    rw[ae,au,if_pos (by simp[go_sem,hsn,hlt])]
    refine (ah _ _).2 ⟨⟨[],[],[L[i]],[],[],[]⟩,rfl,af,by simpa[go_sem] using R.str hx,?_⟩
    by_cases hp:L[i]=dE
    · have hp':L[i]=[112,114,111,103,114,97,109]:=hp
      rw[ae,ai,if_neg (by simp[go_sem,hsn,hp'])]
      exact fin (.inr (by rw[hx,hp])) _
    have hp':¬ L[i]=[112,114,111,103,114,97,109]:=hp
    rw[ae,ai,if_pos (by simp[go_sem,hsn,hp',hlt])]
    rw[ae,au,if_pos (by rfl)]
    refine (ah _ _).2 ⟨⟨[],[],[L[i]],[],[],[]⟩,rfl,af,by simpa[go_sem] using R.str hx,?_⟩
    rw[ae,ag];refine⟨by simp[go_sem,hsn,hns,hlt],?_⟩
    rw[ae,aN,if_pos (by rfl),s_ctRSetting]
    have hks:∀ k,dm hh k→hread k (sl.a.map fun z=>(z.1,z.2+(i:Int).toNat*1+0)) 1=hread hh (sl.a.map fun z=>(z.1,z.2+(i:Int).toNat*1+0)) 1:=fun k hk=>by
     rw[Int.toNat_natCast,R.str hx,(R.le hk).str hx]
    refine⟨q,x,L[i],rfl,W,by omega,by omega,by omega,fun y hy q' k hk W'=>?_,fun hn q' y k hk=>?_⟩
    · refine⟨fun y hy _=>?_,?_⟩
      · simp only[List.mem_singleton] at hy
        subst hy
        exact hks k hk
      refine (ah _ _).2 ⟨⟨[y.fuel,y.heap,y.stack,y.every,y.keep,y.hot],[true],[y.src],[],[q'.i,q'.d,q'.e,q'.a,q'.n,q'.l],[]⟩,rfl,af,rfl,?_⟩
      rw[ae,ai,if_neg (by simp[go_sem])]
      rw[ae,ag];refine⟨by simp[go_sem];omega,?_⟩
      rw[ae,says_again,ei,em]
      obtain⟨g1,g2,g3,g4⟩:=DY hy
      refine⟨⟨h1,sl,?_,hle1,by rw[hLs];exact RP,hsc⟩,?_⟩
      · rw[hLs]
        show FH h1 s L sl _
        exact⟨a0,a1,i+1,a3,a4,a5,a6,a7,a8,s1,l1,l2,l3,l4,l5,l6,k,q',y,rfl,fun c o hc=>hk c o (hle c o hc),W',by rw[hhd,sU hx hp,hy],by omega,by omega,by omega,by rw[g3];exact hxs⟩
      · show L.length - (((i:Int)+1).toNat)<M 0
        omega
    · refine⟨fun y hy _=>?_,?_⟩
      · simp only[List.mem_singleton] at hy
        subst hy
        exact hks k hk
      refine (ah _ _).2 ⟨⟨[y.fuel,y.heap,y.stack,y.every,y.keep,y.hot],[false],[y.src],[],[q'.i,q'.d,q'.e,q'.a,q'.n,q'.l],[]⟩,rfl,af,rfl,?_⟩
      rw[ae,ai,if_pos (by simp[go_sem])]
      rw[ae,ag];refine⟨by simp[go_sem];omega,?_⟩
      rw[ae,aj,ep]
      exact hψ (i+1) 24 (xy hlong (by rw[hLs,hhd,sU hx hp,hn])) qz k (fun c o hc=>hk c o (hhh c o hc)) (um _)
  · have hie:i=L.length:=by omega
    rw[ag];refine⟨by simp[go_sem,hsn];omega,?_⟩
    rw[ae,au,if_neg (by simp[go_sem,hsn];omega)]
    rw[ae,ai,if_neg (by simp[go_sem,hsn];omega)]
    exact fin (.inl hie) _
end Go.Proofs.YtgpanefhaiohnaaGreatDoor
namespace Go.Proofs.YtgpanefhaiohnaaGreatDoor
open Go.RowKit
attribute [local go_sem] aZ aY ag ai ak aN au aC aj says_again BE.den IE.den SE.den LE.den AE.den CE.den PE.den VE.den KV.val dw.den dw.cnt iM dU iY allL Ctx.push Ctx.heap Ctx.cut Ctx.bare Ctx.mark Inc.blank List.getD_cons_zero List.getD_cons_succ List.cons_append List.nil_append List.append_nil List.map_cons List.map_nil List.replicate_zero List.replicate_succ aB bQ bu bG bn bY cO aU aT aV bF bD aF aO aH aA ax aS aI bW af and_assoc
def Hu:Fm:=(.ite (.not (.eqI (.cnt (.x 0)) (.cnt (.x 1))))
 (.ret (.p (.one (.b (.c false)))))
 (.loop 0 ⟨[(.c 0)],[(.c false)],[],[],[],[]⟩
 (.ite (.lt (.x 0) (.cnt (.x 0)))
 (.O (.el (.x 0) (.x 0) 1 0) 1 [.J 1] ⟨1,0,0,0,0,0⟩
 (.O (.el (.x 1) (.x 0) 1 0) 1 [.J 2] ⟨1,0,0,0,0,0⟩
 (.N (.X (.x 0) (.x 0))
 (.N (.X (.x 0) (.x 1))
 (.ite (.not (.eqI (.x 1) (.x 2)))
 (.ret (.p (.one (.b (.c false)))))
 (.N (.R (.add (.x 0) (.c 1)))
 (.again 0 ⟨0,0,0,0,2,0⟩ ⟨1,1,0,0,2,0⟩ ⟨[(.add (.x 0) (.c 1))],[(.x 0)],[],[],[],[]⟩)))))))
 (.ret (.p (.one (.b (.c true))))))))
theorem PZ:df ⟨true,[]⟩ Tryz.prog (fun l=>([⟨[4,13],[14,15,5,16,17,18,19,20,21,22,23,24,25],[]⟩]:List dL).getD l ⟨[],[],[]⟩) Tryz.f19=Hu:=by kernel_rfl
theorem UA:aX Tryz.prog .zero Tryz.f19.params.toList=some ([.L 0,.L 1],⟨0,0,0,0,2,0⟩):=by kernel_rfl
def Ib:Fm:=(.ite (.not (.eqI (.cnt (.x 0)) (.cnt (.x 1))))
 (.ret (.p (.one (.b (.c false)))))
 (.loop 0 ⟨[(.c 0)],[(.c false)],[],[],[],[]⟩
 (.ite (.lt (.x 0) (.cnt (.x 0)))
 (.O (.el (.x 0) (.x 0) 1 0) 1 [(.s (.x 0))] ⟨0,0,1,0,0,0⟩
 (.O (.el (.x 1) (.x 0) 1 0) 1 [(.s (.x 1))] ⟨0,0,1,0,0,0⟩
 (.N (.X (.x 0) (.x 0))
 (.N (.X (.x 0) (.x 1))
 (.ite (.not (.eqS (.x 0) (.x 1)))
 (.ret (.p (.one (.b (.c false)))))
 (.N (.R (.add (.x 0) (.c 1)))
 (.again 0 ⟨0,0,0,0,2,0⟩ ⟨1,1,0,0,2,0⟩ ⟨[(.add (.x 0) (.c 1))],[(.x 0)],[],[],[],[]⟩)))))))
 (.ret (.p (.one (.b (.c true))))))))
theorem Qg:df ⟨true,[]⟩ Tryz.prog (fun l=>([⟨[4,13],[14,15,5,16,17,18,19,20,21,22,23,24,25],[]⟩]:List dL).getD l ⟨[],[],[]⟩) Tryz.f20=Ib:=by kernel_rfl
theorem UK:aX Tryz.prog .zero Tryz.f20.params.toList=some ([.L 0,.L 1],⟨0,0,0,0,2,0⟩):=by kernel_rfl
def H8:Fm:=(.call (.not (.or (.or (.not (.eqI (.x 0) (.x 6))) (.not (.eqI (.x 1) (.x 7)))) (.not (.eqI (.x 2) (.x 8))))) false 19 [.L 0,.L 6] (.p (.B 0)) ⟨0,1,0,0,0,0⟩
 (.call (.not (.or (.or (.or (.not (.eqI (.x 0) (.x 6))) (.not (.eqI (.x 1) (.x 7)))) (.not (.eqI (.x 2) (.x 8)))) (.not (.x 0)))) false 19 [.L 1,.L 7] (.p (.B 1)) ⟨0,1,0,0,0,0⟩
 (.ite (.or (.or (.or (.or (.or (.not (.eqI (.x 0) (.x 6))) (.not (.eqI (.x 1) (.x 7)))) (.not (.eqI (.x 2) (.x 8)))) (.not (.x 0))) (.not (.x 1))) (.not (.eqS (.x 0) (.x 1))))
 (.ret (.p (.one (.b (.c false)))))
 (.ite (.or (.or (.or (.or (.not (.eqI (.x 3) (.x 9))) (.not (.eqI (.x 4) (.x 10)))) (.not (.eqI (.x 5) (.x 11)))) (.not (.eqI (.cnt (.x 2)) (.cnt (.x 8))))) (.not (.eqI (.cnt (.x 3)) (.cnt (.x 9)))))
 (.ret (.p (.one (.b (.c false)))))
 (.loop 0 ⟨[(.c 0)],[(.c false)],[],[],[],[]⟩
 (.ite (.lt (.x 12) (.cnt (.x 2)))
 (.O (.el (.x 2) (.x 12) 1 0) 1 [.J 13] ⟨1,0,0,0,0,0⟩
 (.O (.el (.x 8) (.x 12) 1 0) 1 [.J 14] ⟨1,0,0,0,0,0⟩
 (.N (.X (.x 12) (.x 2))
 (.N (.X (.x 12) (.x 8))
 (.ite (.not (.eqI (.x 13) (.x 14)))
 (.ret (.p (.one (.b (.c false)))))
 (.N (.R (.add (.x 12) (.c 1)))
 (.again 0 ⟨12,2,2,0,12,0⟩ ⟨13,3,2,0,12,0⟩ ⟨[(.add (.x 12) (.c 1))],[(.x 2)],[],[],[],[]⟩)))))))
 (.loop 1 ⟨[(.c 0)],[(.x 2)],[],[],[],[]⟩
 (.ite (.lt (.x 13) (.cnt (.x 3)))
 (.O (.el (.x 3) (.x 13) 3 0) 3 [.J 14,.J 15,.J 16] ⟨3,0,0,0,0,0⟩
 (.O (.el (.x 9) (.x 13) 3 0) 3 [.J 17,.J 18,.J 19] ⟨3,0,0,0,0,0⟩
 (.N (.X (.x 13) (.x 3))
 (.N (.X (.x 13) (.x 9))
 (.ite (.not (.and (.eqI (.x 14) (.x 17)) (.and (.eqI (.x 15) (.x 18)) (.eqI (.x 16) (.x 19)))))
 (.ret (.p (.one (.b (.c false)))))
 (.N (.R (.add (.x 13) (.c 1)))
 (.again 1 ⟨13,3,2,0,12,0⟩ ⟨14,4,2,0,12,0⟩ ⟨[(.add (.x 13) (.c 1))],[(.x 3)],[],[],[],[]⟩)))))))
 (.C 20 [.L 4,.L 10] (.p (.B 4)) ⟨0,1,0,0,0,0⟩
 (.call (.x 4) false 20 [.L 5,.L 11] (.p (.B 5)) ⟨0,1,0,0,0,0⟩
 (.ret (.p (.one (.b (.and (.x 4) (.x 5))))))))))))))))
theorem Qc:df ⟨true,[]⟩ Tryz.prog (fun l=>([⟨[4,110],[111,112,5,113,114,115,116,117,118,119,120,121,122,123,124,125,126],[]⟩,⟨[4,131],[132,133,6,134,135,136,137,138,139,140,141,142,143,144,145,146,147],[]⟩]:List dL).getD l ⟨[],[],[]⟩) Tryz.f8=H8:=by kernel_rfl
theorem UH:aX Tryz.prog .zero Tryz.f8.params.toList=some ([(.agg [(.sl (.x 0)),(.sl (.x 1)),.J 0,.J 1,.J 2,.J 3,.J 4,.J 5,(.sl (.x 2)),(.sl (.x 3)),(.sl (.x 4)),(.s (.x 0)),(.sl (.x 5))]),(.agg [(.sl (.x 6)),(.sl (.x 7)),.J 6,.J 7,.J 8,.J 9,.J 10,.J 11,(.sl (.x 8)),(.sl (.x 9)),(.sl (.x 10)),(.s (.x 1)),(.sl (.x 11))])],⟨12,0,2,0,12,0⟩):=by kernel_rfl
def OI (s t:bg) (n:Nat) (h:Hp):Nat→Ctx→Prop:=fun _ C=>∃ (i:Nat) (b:Bool),C=⟨[(i:Int)],[b],[],[],[s,t],[],h,dY⟩∧i≤n
def jW (n:Nat):Nat→Ctx→Nat:=fun _ C=>n - (C.i.getD 0 0).toNat
set_option maxHeartbeats 1000000 in
def NI:Ct Tryz.prog where
 f:=19
 spec:=fun args h φ=>∃ s t l,args=[s.val,t.val]∧Row h s (dQ l) l.length 1∧Row h t (dQ l) l.length 1∧l.length≤1000000∧φ (.bool true) h
 ok:=by
  rintro args h φ w ⟨s,t,l,rfl,R1,R2,hl,hφ⟩ hH
  refine dD Tryz.func19 PZ UA [] φ (OI s t l.length h) (jW l.length) ⟨[],[],[],[],[s,t],[],h,dY⟩ ⟨rfl,rfl,rfl,rfl,rfl,rfl⟩ af ?_ w hH rfl
  generalize hE:(⟨aB _,_,_,_⟩:Env)=E
  have ep:E.post=φ:=by rw[← hE]
  have ei:E.inv=(OI s t l.length h):=by rw[← hE]
  have em:E.meas=(jW l.length):=by rw[← hE]
  clear hE
  unfold Hu
  have n1:=R1.cnt
  have n2:=R2.cnt
  rw[ai,if_neg (by simp[go_sem,n1,n2])]
  rw[ae]
  refine aQ ?_ ?_
  · rw[ei]
    exact⟨0,false,rfl,Nat.zero_le _⟩
  rw[ei,em]
  rintro i' bb ss vv ll pp hh M ⟨i,b,hC,hi⟩ hM
  cases hC
  have hM':M 0=l.length - i:=hM
  by_cases hlt:i<l.length
  · have hx:l[i]? = some l[i]:=List.getElem?_eq_getElem hlt
    have e1:=R1.nns (by omega)
    have e2:=R2.nns (by omega)
    rw[ai,if_pos (by simp[go_sem,n1];omega)]
    rw[ae,au,if_pos (by rfl)]
    refine (ah _ _).2 ⟨⟨[l[i]],[],[],[],[],[]⟩,rfl,af,by simpa[go_sem] using R1.int hx,?_⟩
    rw[ae,au,if_pos (by rfl)]
    refine (ah _ _).2 ⟨⟨[l[i]],[],[],[],[],[]⟩,rfl,af,by simpa[go_sem] using R2.int hx,?_⟩
    rw[ae,ag];refine⟨by simp[go_sem,n1,e1,hlt],?_⟩
    rw[ae,ag];refine⟨by simp[go_sem,n2,e2,hlt],?_⟩
    rw[ae,ai,if_neg (by simp[go_sem])]
    rw[ae,ag];refine⟨by simp[go_sem];omega,?_⟩
    rw[ae,says_again,ei,em]
    refine⟨⟨i+1,b,rfl,by omega⟩,?_⟩
    show l.length - (((i:Int)+1).toNat)<M 0
    omega
  · rw[ai,if_neg (by simp[go_sem,n1];omega)]
    rw[ae,aj,ep]
    exact hφ
set_option maxHeartbeats 1000000 in
def NQ:Ct Tryz.prog where
 f:=20
 spec:=fun args h φ=>∃ s t l,args=[s.val,t.val]∧Row h s (bZ l) l.length 1∧Row h t (bZ l) l.length 1∧l.length≤1000000∧φ (.bool true) h
 ok:=by
  rintro args h φ w ⟨s,t,l,rfl,R1,R2,hl,hφ⟩ hH
  refine dD Tryz.func20 Qg UK [] φ (OI s t l.length h) (jW l.length) ⟨[],[],[],[],[s,t],[],h,dY⟩ ⟨rfl,rfl,rfl,rfl,rfl,rfl⟩ af ?_ w hH rfl
  generalize hE:(⟨aB _,_,_,_⟩:Env)=E
  have ep:E.post=φ:=by rw[← hE]
  have ei:E.inv=(OI s t l.length h):=by rw[← hE]
  have em:E.meas=(jW l.length):=by rw[← hE]
  clear hE
  unfold Ib
  have n1:=R1.cnt
  have n2:=R2.cnt
  rw[ai,if_neg (by simp[go_sem,n1,n2])]
  rw[ae]
  refine aQ ?_ ?_
  · rw[ei]
    exact⟨0,false,rfl,Nat.zero_le _⟩
  rw[ei,em]
  rintro i' bb ss vv ll pp hh M ⟨i,b,hC,hi⟩ hM
  cases hC
  have hM':M 0=l.length - i:=hM
  by_cases hlt:i<l.length
  · have hx:l[i]? = some l[i]:=List.getElem?_eq_getElem hlt
    have e1:=R1.nns (by omega)
    have e2:=R2.nns (by omega)
    rw[ai,if_pos (by simp[go_sem,n1];omega)]
    rw[ae,au,if_pos (by rfl)]
    refine (ah _ _).2 ⟨⟨[],[],[l[i]],[],[],[]⟩,rfl,af,by simpa[go_sem] using R1.str hx,?_⟩
    rw[ae,au,if_pos (by rfl)]
    refine (ah _ _).2 ⟨⟨[],[],[l[i]],[],[],[]⟩,rfl,af,by simpa[go_sem] using R2.str hx,?_⟩
    rw[ae,ag];refine⟨by simp[go_sem,n1,e1,hlt],?_⟩
    rw[ae,ag];refine⟨by simp[go_sem,n2,e2,hlt],?_⟩
    rw[ae,ai,if_neg (by simp[go_sem])]
    rw[ae,ag];refine⟨by simp[go_sem];omega,?_⟩
    rw[ae,says_again,ei,em]
    refine⟨⟨i+1,b,rfl,by omega⟩,?_⟩
    show l.length - (((i:Int)+1).toNat)<M 0
    omega
  · rw[ai,if_neg (by simp[go_sem,n1];omega)]
    rw[ae,aj,ep]
    exact hφ
def Ym (q p:Ss) (x:gu) (h:Hp):Nat→Ctx→Prop:=fun o C=>if o=0 then
 ∃ (i:Nat) (b0 b1 b2:Bool),C=⟨[x.fuel,x.heap,x.stack,x.every,x.keep,x.hot,x.fuel,x.heap,x.stack,x.every,x.keep,x.hot,(i:Int)],[b0,b1,b2],[x.src,x.src],[],[q.i,q.d,q.e,q.a,q.n,q.l,p.i,p.d,p.e,p.a,p.n,p.l],[],h,dY⟩∧i≤x.evict.length
 else ∃ (i0:Int) (i:Nat) (b0 b1 b2 b3:Bool),C=⟨[x.fuel,x.heap,x.stack,x.every,x.keep,x.hot,x.fuel,x.heap,x.stack,x.every,x.keep,x.hot,i0,(i:Int)],[b0,b1,b2,b3],[x.src,x.src],[],[q.i,q.d,q.e,q.a,q.n,q.l,p.i,p.d,p.e,p.a,p.n,p.l],[],h,dY⟩∧i≤x.acts.length
def Vk (x:gu):Nat→Ctx→Nat:=fun o C=>if o=0 then x.evict.length - (C.i.getD 12 0).toNat else x.acts.length - (C.i.getD 13 0).toNat
structure XO (x:gu):Prop where
 i:x.ins.length≤1000000
 d:x.draws.length≤1000000
 e:x.evict.length≤1000000
 a:x.acts.length≤1000000
 n:x.names.length≤1000000
 l:x.lines.length≤1000000
set_option maxHeartbeats 4000000 in
def xh:Ct Tryz.prog where
 f:=8
 spec:=fun args h φ=>∃ q p x,args=[.agg (bz q x).toArray,.agg (bz p x).toArray]∧FX h q x∧FX h p x∧XO x∧φ (.bool true) h
 ok:=by
  rintro args h φ w ⟨q,p,x,rfl,R,P,hl,hφ⟩ hH
  refine dD Tryz.func8 Qc UH [NI,NQ] φ (Ym q p x h) (Vk x) ⟨[x.fuel,x.heap,x.stack,x.every,x.keep,x.hot,x.fuel,x.heap,x.stack,x.every,x.keep,x.hot],[],[x.src,x.src],[],[q.i,q.d,q.e,q.a,q.n,q.l,p.i,p.d,p.e,p.a,p.n,p.l],[],h,dY⟩ ⟨rfl,rfl,rfl,rfl,rfl,rfl⟩ af ?_ w hH rfl
  generalize hE:(⟨aB _,_,_,_⟩:Env)=E
  have s_ctNSame:E.spec 19=(NI).spec:=by rw[← hE];rfl
  have s_ctTSame:E.spec 20=(NQ).spec:=by rw[← hE];rfl
  have ep:E.post=φ:=by rw[← hE]
  have ei:E.inv=(Ym q p x h):=by rw[← hE]
  have em:E.meas=(Vk x):=by rw[← hE]
  clear hE
  unfold H8
  have ne1:=R.e.cnt
  have ne2:=P.e.cnt
  have na1:=R.a.cnt
  have na2:=P.a.cnt
  have hle:=hl.e
  have hla:=hl.a
  rw[ak,if_pos (by simp[go_sem]),s_ctNSame]
  refine⟨q.i,p.i,x.ins,rfl,R.i,P.i,hl.i,?_⟩
  refine⟨fun h=>(by cases h),(ah _ _).2 ⟨⟨[],[true],[],[],[],[]⟩,rfl,af,rfl,?_⟩⟩
  rw[ae,ak,if_pos (by simp[go_sem]),s_ctNSame]
  refine⟨q.d,p.d,x.draws,rfl,R.d,P.d,hl.d,?_⟩
  refine⟨fun h=>(by cases h),(ah _ _).2 ⟨⟨[],[true],[],[],[],[]⟩,rfl,af,rfl,?_⟩⟩
  rw[ae,ai,if_neg (by simp[go_sem])]
  rw[ae,ai,if_neg (by simp[go_sem,ne1,ne2,na1,na2])]
  rw[ae]
  refine aQ ?_ ?_
  · rw[ei]
    exact⟨0,true,true,false,rfl,Nat.zero_le _⟩
  rw[ei,em]
  rintro i' bb ss vv ll pp hh M ⟨i,b0,b1,b2,hC,hi⟩ hM
  cases hC
  have hM':M 0=x.evict.length - i:=hM
  by_cases hlt:i<x.evict.length
  · have hx:x.evict[i]? = some x.evict[i]:=List.getElem?_eq_getElem hlt
    have e1:=R.e.nns (by omega)
    have e2:=P.e.nns (by omega)
    rw[ai,if_pos (by simp[go_sem,ne1];omega)]
    rw[ae,au,if_pos (by rfl)]
    refine (ah _ _).2 ⟨⟨[x.evict[i]],[],[],[],[],[]⟩,rfl,af,by simpa[go_sem] using R.e.int hx,?_⟩
    rw[ae,au,if_pos (by rfl)]
    refine (ah _ _).2 ⟨⟨[x.evict[i]],[],[],[],[],[]⟩,rfl,af,by simpa[go_sem] using P.e.int hx,?_⟩
    rw[ae,ag];refine⟨by simp[go_sem,ne1,e1,hlt],?_⟩
    rw[ae,ag];refine⟨by simp[go_sem,ne2,e2,hlt],?_⟩
    rw[ae,ai,if_neg (by simp[go_sem])]
    rw[ae,ag];refine⟨by simp[go_sem];omega,?_⟩
    rw[ae,says_again,ei,em]
    refine⟨⟨i+1,b0,b1,b2,rfl,by omega⟩,?_⟩
    show x.evict.length - (((i:Int)+1).toNat)<M 0
    omega
  rw[ai,if_neg (by simp[go_sem,ne1];omega)]
  rw[ae]
  refine aQ ?_ ?_
  · rw[ei]
    exact⟨i,0,b0,b1,b2,b2,rfl,Nat.zero_le _⟩
  clear hM' hM
  rw[ei,em]
  rintro i' bb ss vv ll pp hh M ⟨i0,i,b0,b1,b2,b3,hC,hi⟩ hM
  cases hC
  have hM':M 1=x.acts.length - i:=hM
  by_cases hlt:i<x.acts.length
  · have hx:x.acts[i]? = some x.acts[i]:=List.getElem?_eq_getElem hlt
    have e1:=R.a.nns (by omega)
    have e2:=P.a.nns (by omega)
    rw[ai,if_pos (by simp[go_sem,na1];omega)]
    rw[ae,au,if_pos (by rfl)]
    refine (ah _ _).2 ⟨⟨[x.acts[i].1,x.acts[i].2.2,x.acts[i].2.1],[],[],[],[],[]⟩,rfl,af,by simpa[go_sem] using R.a.act hx,?_⟩
    rw[ae,au,if_pos (by rfl)]
    refine (ah _ _).2 ⟨⟨[x.acts[i].1,x.acts[i].2.2,x.acts[i].2.1],[],[],[],[],[]⟩,rfl,af,by simpa[go_sem] using P.a.act hx,?_⟩
    rw[ae,ag];refine⟨by simp[go_sem,na1,e1,hlt],?_⟩
    rw[ae,ag];refine⟨by simp[go_sem,na2,e2,hlt],?_⟩
    rw[ae,ai,if_neg (by simp[go_sem])]
    rw[ae,ag];refine⟨by simp[go_sem];omega,?_⟩
    rw[ae,says_again,ei,em]
    refine⟨⟨i0,i+1,b0,b1,b2,b3,rfl,by omega⟩,?_⟩
    show x.acts.length - (((i:Int)+1).toNat)<M 1
    omega
  rw[ai,if_neg (by simp[go_sem,na1];omega)]
  rw[ae,ak,if_pos (by rfl),s_ctTSame]
  refine⟨q.n,p.n,x.names,rfl,R.n,P.n,hl.n,?_⟩
  refine⟨fun h=>(by cases h),(ah _ _).2 ⟨⟨[],[true],[],[],[],[]⟩,rfl,af,rfl,?_⟩⟩
  rw[ae,ak,if_pos (by simp[go_sem]),s_ctTSame]
  refine⟨q.l,p.l,x.lines,rfl,R.l,P.l,hl.l,?_⟩
  refine⟨fun h=>(by cases h),(ah _ _).2 ⟨⟨[],[true],[],[],[],[]⟩,rfl,af,rfl,?_⟩⟩
  rw[ae,aj,ep]
  exact hφ
end Go.Proofs.YtgpanefhaiohnaaGreatDoor
namespace Go.Proofs.YtgpanefhaiohnaaGreatDoor
open Go.RowKit
attribute [local go_sem] aZ aY ag ai ak aN au aC aj says_again BE.den IE.den SE.den LE.den AE.den CE.den PE.den VE.den KV.val dw.den dw.cnt iM dU iY allL Ctx.push Ctx.heap Ctx.cut Ctx.bare Ctx.mark Inc.blank List.getD_cons_zero List.getD_cons_succ List.cons_append List.nil_append List.append_nil List.map_cons List.map_nil List.replicate_zero List.replicate_succ aB bQ bu bG bn bY cO aU aT aV bF bD aF aO aH aA ax aS aI bW af and_assoc
def yK:Fm:=(.loop 0 ⟨[(.c 0)],[(.c false)],[],[],[],[]⟩
 (.ite (.lt (.x 0) (.cnt (.x 0)))
 (.N (.X (.x 0) (.x 0))
 (.O (.el (.x 0) (.x 0) 1 0) 1 [.J 1] ⟨1,0,0,0,0,0⟩
 (.ite (.or (.lt (.x 1) (.c 0)) (.lt (.c 1048576) (.x 1)))
 (.ret (.p (.one (.b (.c false)))))
 (.N (.R (.add (.x 0) (.c 1)))
 (.again 0 ⟨0,0,0,0,1,0⟩ ⟨1,1,0,0,1,0⟩ ⟨[(.add (.x 0) (.c 1))],[(.x 0)],[],[],[],[]⟩)))))
 (.ret (.p (.one (.b (.c true)))))))
theorem Ik:df ⟨true,[]⟩ Tryz.prog (fun l=>([⟨[2,7],[8,9,10,4,11,12,13,14,15,16,17],[]⟩]:List dL).getD l ⟨[],[],[]⟩) Tryz.f43=yK:=by kernel_rfl
theorem MF:aX Tryz.prog .zero Tryz.f43.params.toList=some ([.L 0],⟨0,0,0,0,1,0⟩):=by kernel_rfl
def Oe:Fm:=(.ite (.not (.eqI (.x 2) (.c 0)))
 (.ret (.p (.one (.b (.c false)))))
 (.mk [.J 0] 3 1
 (.C 43 [.L 0] (.p (.B 0)) ⟨0,1,0,0,0,0⟩
 (.ite (.not (.x 0))
 (.ret (.p (.one (.b (.c false)))))
 (.ite (.eqI (.x 1) (.c 1))
 (.ite (.eqI (.x 1) (.c 1))
 (.C 61 [.S 0] (.p (.B 1)) ⟨0,1,0,0,0,0⟩
 (.ret (.p (.B 1))))
 (.ret (.p (.one (.b (.and (.eqI (.x 1) (.c 3)) (.eqS (.x 0) (.c []))))))))
 (.ite (.eqI (.x 1) (.c 2))
 (.C 61 [.S 0] (.p (.B 1)) ⟨0,1,0,0,0,0⟩
 (.ret (.p (.B 1))))
 (.ret (.p (.one (.b (.and (.eqI (.x 1) (.c 3)) (.eqS (.x 0) (.c [])))))))))))))
theorem Tu:df ⟨true,[]⟩ Tryz.prog (fun l=>([]:List dL).getD l ⟨[],[],[]⟩) Tryz.f44=Oe:=by kernel_rfl
theorem Xg:aX Tryz.prog .zero Tryz.f44.params.toList=some ([(.agg [.J 0,.J 1,.J 2]),.S 0],⟨3,0,1,0,0,0⟩):=by kernel_rfl
theorem GG {sub:List UInt8} (h:sub≠[]):Lib.contains [] sub=false:=by
 unfold Lib.contains
 rw[Lib.index]
 cases sub with
 | nil=>exact absurd rfl h
 | cons _ _=>rfl
theorem pI (b:UInt8) (l sub:List UInt8):Lib.contains (b::l) sub=(sub.isPrefixOf (b::l)||Lib.contains l sub):=by
 unfold Lib.contains
 rw[Lib.index]
 by_cases h:sub.isPrefixOf (b::l)=true
 · rw[if_pos h,h];rfl
 · rw[if_neg h]
   have h':sub.isPrefixOf (b::l)=false:=by
    cases hq:sub.isPrefixOf (b::l) with
    | true=>exact absurd hq h
    | false=>rfl
   rw[h',Bool.false_or]
   have:=Lib.index_ge l sub
   by_cases h2:Lib.index l sub=-1
   · rw[h2];rfl
   · rw[if_neg (by simpa using h2)]
     rw[decide_eq_true (by omega),decide_eq_true (by omega)]
theorem Bl {t:List UInt8} (r:List UInt8):∀ {l:List UInt8},(∀ x∈l,x≠10)→Lib.contains (l++r) (10::t)=Lib.contains r (10::t)
 | [],_=>rfl
 | x::l,h=>by
   rw[List.cons_append,pI,Bl r (fun y hy=>h y (by simp[hy]))]
   have:((10:UInt8)::t).isPrefixOf (x::(l++r))=false:=by
    rw[List.isPrefixOf]
    have h1:((10:UInt8)==x)=false:=by
     have:=h x (by simp)
     simpa using fun e=>this e.symm
    rw[h1];rfl
   rw[this,Bool.false_or]
theorem Xc {l:List UInt8} (r:List UInt8) (h:∀ x∈l,x≠10):([101,110,100,10]:List UInt8).isPrefixOf (l++10::r)=decide (l=fD):=by
 unfold fD
 rcases l with _ | ⟨a,_ | ⟨b,_ | ⟨c,_ | ⟨d,l⟩⟩⟩⟩
 · rfl
 · simp[List.isPrefixOf]
 · simp[List.isPrefixOf]
 · simp[List.isPrefixOf]
   rw[Bool.eq_iff_iff]
   simp
   constructor
   · rintro⟨rfl,rfl,rfl⟩;exact⟨rfl,rfl,rfl⟩
   · rintro⟨rfl,rfl,rfl⟩;exact⟨rfl,rfl,rfl⟩
 · have:=h d (by simp)
   simp[List.isPrefixOf]
   intro _ _ _ e
   exact absurd e.symm this
theorem Gz:∀ {ls:List (List UInt8)},(∀ x∈ls,∀ y∈x,y≠10)→Lib.contains (10::dG ls) [10,101,110,100,10]=ls.any fun l=>decide (l=fD)
 | [],_=>by
   rw[pI,show dG []=[] from rfl,GG (by simp)];rfl
 | l::ls,h=>by
   rw[pI,gq,Bl _ (h l (by simp)),Gz (fun x hx=>h x (by simp[hx])),List.any_cons]
   congr 1
   rw[List.isPrefixOf]
   rw[show ((10:UInt8)==10)=true from rfl,Bool.true_and]
   exact Xc _ (h l (by simp))
theorem Np (s:List UInt8):Lib.hasSuffix s [10]=decide (s.getLast? = some 10):=by
 unfold Lib.hasSuffix
 rw[Bool.eq_iff_iff,List.isSuffixOf_iff_suffix,decide_eq_true_eq]
 constructor
 · rintro⟨t,rfl⟩;simp
 · intro h
   obtain⟨l,rfl⟩:=List.getLast?_eq_some_iff.1 h
   exact⟨l,rfl⟩
def rD (src:List UInt8):Bool:=(src.isEmpty||decide (src.getLast? = some 10))&&(bC src).all fun l=>!decide (l=fD)
theorem src_ok {src:List UInt8} (h:src=[]∨src.getLast? = some 10):rD src=!Lib.contains ([10]++src) [10,101,110,100,10]:=by
 have h1:(src.isEmpty||decide (src.getLast? = some 10))=true:=by
  rcases h with rfl | h
  · rfl
  · rw[decide_eq_true h];simp
 unfold rD
 rw[h1,Bool.true_and]
 have h2:=Gz (ls:=bC src) uT
 rw[uP h] at h2
 rw[List.singleton_append,h2]
 rw[Bool.eq_iff_iff];simp
theorem O6 {src:List UInt8} (h:¬ (src=[]∨src.getLast? = some 10)):rD src=false:=by
 have h1:(src.isEmpty||decide (src.getLast? = some 10))=false:=by
  rw[decide_eq_false (fun e=>h (.inr e))]
  cases src with
  | nil=>exact absurd (.inl rfl) h
  | cons _ _=>rfl
 unfold rD
 rw[h1];rfl
theorem IW (l:List UInt8):rf l=!decide ((10:UInt8)∈l):=by
 rw[Bool.eq_iff_iff,zA]
 simp
 constructor
 · intro h hm;exact h 10 hm rfl
 · rintro h c hc rfl;exact h hc
theorem mr {nm:List UInt8→Bool}:∀ {l:List (Int×Int×Int)} {k:List (List UInt8)},l.length=k.length→(jL nm l k=true↔∀ (i:Nat) a n,l[i]? = some a→k[i]? = some n→mg nm a n=true)
 | [],[],_=>by simp[jL]
 | [],_::_,h=>by simp at h
 | _::_,[],h=>by simp at h
 | a::l,n::k,h=>by
   rw[jL,Bool.and_eq_true,mr (l:=l) (k:=k) (by simpa using h)]
   constructor
   · rintro⟨h1,h2⟩ i b m hb hm
     cases i with
     | zero=>simp at hb hm;subst hb hm;exact h1
     | succ i=>simp at hb hm;exact h2 i b m hb hm
   · intro h1
     exact⟨h1 0 a n rfl rfl,fun i b m hb hm=>h1 (i+1) b m (by simpa using hb) (by simpa using hm)⟩
theorem MN (h:Hp) (b:Nat) (l:List Int) (T:TypeId) {n:Nat} (hn:l.length=n):Row (h.set b ⟨dQ l,T⟩) ⟨some (b,0),n,n⟩ (dQ l) l.length 1:=by
 subst hn
 refine⟨.inr ⟨by simp,?_⟩,rfl,by rw[zU];simp⟩
 rw[aH,if_pos (by simp[zU])]
 show some (((dQ l).drop 0).take (l.length*1))=_
 rw[List.drop_zero,List.take_of_length_le (by rw[zU];simp)]
def Yt (s:bg) (l:List Int) (h:Hp):Nat→Ctx→Prop:=fun _ C=>∃ (i:Nat) (b:Bool),C=⟨[(i:Int)],[b],[],[],[s],[],h,dY⟩∧i≤l.length∧∀ j n,j<i→l[j]? = some n→dI n=true
set_option maxHeartbeats 1000000 in
def rZ:Ct Tryz.prog where
 f:=43
 spec:=fun args h φ=>∃ s l,args=[s.val]∧Row h s (dQ l) l.length 1∧l.length≤1000∧φ (.bool (l.all dI)) h
 ok:=by
  rintro args h φ w ⟨s,l,rfl,R,hl,hφ⟩ hH
  refine dD Tryz.func43 Ik MF [] φ (Yt s l h) (jW l.length) ⟨[],[],[],[],[s],[],h,dY⟩ ⟨rfl,rfl,rfl,rfl,rfl,rfl⟩ af ?_ w hH rfl
  generalize hE:(⟨aB _,_,_,_⟩:Env)=E
  have ep:E.post=φ:=by rw[← hE]
  have ei:E.inv=(Yt s l h):=by rw[← hE]
  have em:E.meas=(jW l.length):=by rw[← hE]
  clear hE
  unfold yK
  have n1:=R.cnt
  refine aQ ?_ ?_
  · rw[ei]
    exact⟨0,false,rfl,Nat.zero_le _,fun j n hj=>by omega⟩
  rw[ei,em]
  rintro i' bb ss vv ll pp hh M ⟨i,b,hC,hi,hall⟩ hM
  cases hC
  have hM':M 0=l.length - i:=hM
  by_cases hlt:i<l.length
  · have hx:l[i]? = some l[i]:=List.getElem?_eq_getElem hlt
    have e1:=R.nns (by omega)
    rw[ai,if_pos (by simp[go_sem,n1];omega)]
    rw[ae,ag];refine⟨by simp[go_sem,n1,e1,hlt],?_⟩
    rw[ae,au,if_pos (by rfl)]
    refine (ah _ _).2 ⟨⟨[l[i]],[],[],[],[],[]⟩,rfl,af,by simpa[go_sem] using R.int hx,?_⟩
    by_cases hs:0≤l[i]∧l[i]≤1048576
    · rw[ae,ai,if_neg (by simp[go_sem];omega)]
      rw[ae,ag];refine⟨by simp[go_sem];omega,?_⟩
      rw[ae,says_again,ei,em]
      refine⟨⟨i+1,b,rfl,by omega,fun j n hj hn=>?_⟩,?_⟩
      · by_cases e:j=i
        · subst e
          rw[hx] at hn;cases hn
          exact (nU _).2 hs
        · exact hall j n (by omega) hn
      · show l.length - (((i:Int)+1).toNat)<M 0
        omega
    · rw[ae,ai,if_pos (by simp[go_sem];omega)]
      rw[ae,aj,ep]
      have:l.all dI=false:=by
       rw[Bool.eq_false_iff]
       intro h
       exact hs ((nU _).1 (List.all_eq_true.1 h _ (List.getElem_mem hlt)))
      rw[this] at hφ
      exact hφ
  · rw[ai,if_neg (by simp[go_sem,n1];omega)]
    rw[ae,aj,ep]
    have:l.all dI=true:=by
     rw[List.all_eq_true]
     intro n hn
     obtain⟨j,hj,rfl⟩:=List.getElem_of_mem hn
     exact hall j _ (by omega) (List.getElem?_eq_getElem hj)
    rw[this] at hφ
    exact hφ
theorem Ff:gU []=false:=rfl
theorem xJ (t f k:Int) (n:List UInt8):(f≠0→mg gU (t,f,k) n=false)∧(dI t=false→mg gU (t,f,k) n=false)∧
 (f=0→dI t=true→(k=1∨k=2)→mg gU (t,f,k) n=gU n)∧(f=0→dI t=true→¬ (k=1∨k=2)→mg gU (t,f,k) n=(k==3&&n==[])):=by
 refine⟨fun h=>?_,fun h=>?_,fun h1 h2 h3=>?_,fun h1 h2 h3=>?_⟩
 · unfold mg;simp[h]
 · unfold mg;simp[h]
 · subst h1
   unfold mg
   rcases h3 with rfl | rfl<;>simp[h2]
 · subst h1
   unfold mg
   have e1:¬ k=1:=fun e=>h3 (.inl e)
   have e2:¬ k=2:=fun e=>h3 (.inr e)
   simp only[h2,e1,e2,decide_true,decide_false,Bool.or_self,Bool.true_and,Bool.false_or]
   rw[Bool.eq_iff_iff]
   simp
   constructor
   · rintro⟨a,b,c,rfl⟩;exact⟨by omega,rfl⟩
   · rintro⟨rfl,rfl⟩;exact⟨by omega,by omega,rfl,rfl⟩
set_option maxHeartbeats 1000000 in
def XV:Ct Tryz.prog where
 f:=44
 spec:=fun args h φ=>∃ t f k n,args=[.agg #[.int .i64 t,.int .i64 k,.int .i64 f],.string (B n)]∧φ (.bool (mg gU (t,f,k) n)) h
 ok:=by
  rintro args h φ w ⟨t,f,k,n,rfl,hφ⟩ hH
  refine fA (dD Tryz.func44 Tu Xg [rZ,xm] (fun v k=>∃ k',dm k' k∧φ v k') (ig) (eX) ⟨[t,k,f],[],[n],[],[],[],h,dY⟩ ⟨rfl,rfl,rfl,rfl,rfl,rfl⟩ af ?_ w hH rfl)
  generalize hE:(⟨aB _,_,_,_⟩:Env)=E
  have s_ctWithin:E.spec 43=(rZ).spec:=by rw[← hE];rfl
  have s_ctTName:E.spec 61=(xm).spec:=by rw[← hE];rfl
  have ep:E.post=(fun v k=>∃ k',dm k' k∧φ v k'):=by rw[← hE]
  clear hE
  unfold Oe
  obtain⟨c1,c2,c3,c4⟩:=xJ t f k n
  by_cases hf:f=0
  rotate_left
  · rw[ai,if_pos (by simp[go_sem];exact hf)]
    rw[ae,aj,ep]
    rw[c1 hf] at hφ
    exact⟨h,fun _ _ h=>h,hφ⟩
  rw[ai,if_neg (by simp[go_sem];exact hf)]
  rw[ae,di]
  intro b hb
  have hb:h b=none:=hb
  have hle:=dF hb ⟨dQ [t],3⟩
  rw[ae,ak,if_pos (by rfl),s_ctWithin]
  refine⟨⟨some (b,0),1,1⟩,[t],rfl,MN h b [t] _ rfl,by simp,?_⟩
  rw[show ([t].all dI)=dI t by simp]
  refine⟨fun h=>(by cases h),(ah _ _).2 ⟨⟨[],[dI t],[],[],[],[]⟩,rfl,af,rfl,?_⟩⟩
  cases hs:dI t with
  | false=>
    rw[ae,ai,if_pos (by simp[go_sem])]
    rw[ae,aj,ep]
    rw[c2 hs] at hφ
    exact⟨h,hle,hφ⟩
  | true=>
  rw[ae,ai,if_neg (by simp[go_sem])]
  by_cases h1:k=1
  · rw[c3 hf hs (.inl h1)] at hφ
    rw[ae,ai,if_pos (by simp[go_sem];exact h1)]
    rw[ae,ai,if_pos (by simp[go_sem];exact h1)]
    rw[ae,ak,if_pos (by rfl),s_ctTName]
    refine⟨n,rfl,?_⟩
    refine⟨fun h=>(by cases h),(ah _ _).2 ⟨⟨[],[bT uC n],[],[],[],[]⟩,rfl,af,rfl,?_⟩⟩
    rw[ae,aj,ep]
    exact⟨h,hle,hφ⟩
  rw[ae,ai,if_neg (by simp[go_sem];exact h1)]
  by_cases h2:k=2
  · rw[c3 hf hs (.inr h2)] at hφ
    rw[ae,ai,if_pos (by simp[go_sem];exact h2)]
    rw[ae,ak,if_pos (by rfl),s_ctTName]
    refine⟨n,rfl,?_⟩
    refine⟨fun h=>(by cases h),(ah _ _).2 ⟨⟨[],[bT uC n],[],[],[],[]⟩,rfl,af,rfl,?_⟩⟩
    rw[ae,aj,ep]
    exact⟨h,hle,hφ⟩
  rw[ae,ai,if_neg (by simp[go_sem];exact h2)]
  rw[c4 hf hs (fun e=>e.elim h1 h2)] at hφ
  rw[ae,aj,ep]
  exact⟨h,hle,hφ⟩
end Go.Proofs.YtgpanefhaiohnaaGreatDoor
namespace Go.Proofs.YtgpanefhaiohnaaGreatDoor
open Go.RowKit
attribute [local go_sem] aZ aY ag ai ak aN au aC aj says_again BE.den IE.den SE.den LE.den AE.den CE.den PE.den VE.den KV.val dw.den dw.cnt iM dU iY allL Ctx.push Ctx.heap Ctx.cut Ctx.bare Ctx.mark Inc.blank List.getD_cons_zero List.getD_cons_succ List.cons_append List.nil_append List.append_nil List.map_cons List.map_nil List.replicate_zero List.replicate_succ aB bQ bu bG bn bY cO aU aT aV bF bD aF aO aH aA ax aS aI bW af and_assoc
theorem GH (c:UInt8):∀ l:List UInt8,Lib.contains l [c]=decide (c∈l)
 | []=>by rw[GG (by simp)];rfl
 | x::l=>by
   rw[pI,GH c l]
   rw[Bool.eq_iff_iff]
   simp[List.isPrefixOf]
theorem xq (l:List UInt8):(B l).data.toList=l:=rfl
def yf:Ct Tryz.prog where
 f:=45
 spec:=fun args h φ=>∃ l sub,args=[.string (B l),.string (B sub)]∧l.length≤1000001∧qy h∧φ (.bool (Lib.contains l sub)) h
 ok:=by
  rintro args h φ w ⟨l,sub,rfl,hl,⟨m,hm⟩,hφ⟩ hH
  obtain⟨T,fz,hx⟩:=Ei hH hm
  have hcell:w.cell? ⟨0,0,none⟩=some (.int .i64 m):=by rw[Lib.cell_of_heap hx];rfl
  have hc:=Tryz.strings_Contains (B l) (B sub) m w (by rw[dJ];omega) hcell
  rw[xq,xq] at hc
  exact Es (hc.mono fun _ _ h=>⟨h.1,h.2.symm⟩) hφ hH
def GZ:Ct Tryz.prog where
 f:=46
 spec:=fun args h φ=>∃ l sub,args=[.string (B l),.string (B sub)]∧l.length≤1000001∧φ (.bool (Lib.hasSuffix l sub)) h
 ok:=by
  rintro args h φ w ⟨l,sub,rfl,hl,hφ⟩ hH
  have hc:=Tryz.strings_HasSuffix (B l) (B sub) w (by rw[dJ];omega)
  rw[xq,xq] at hc
  exact Es (hc.mono fun _ _ h=>⟨h.1,h.2.symm⟩) hφ hH
theorem uF {nm:List UInt8→Bool}:∀ {l:List (Int×Int×Int)} {k:List (List UInt8)},jL nm l k=true→l.length=k.length
 | [],[],_=>rfl
 | [],_::_,h=>by cases h
 | _::_,[],h=>by cases h
 | a::l,n::k,h=>by
   rw[jL,Bool.and_eq_true] at h
   rw[List.length_cons,List.length_cons,uF h.2]
def qE (x:gu):Bool:=[x.fuel,x.heap,x.stack,x.every,x.keep,x.hot].all dI
theorem Dl (nm:List UInt8→Bool) (x:gu):qY nm x=(qE x&&(jL nm x.acts x.names&&(decide (x.lines.length≤1000)&&(x.lines.all rf&&rD x.src)))):=by
 unfold qY qE rD
 simp[Bool.and_assoc]
def Yf (q:Ss) (x:gu) (h:Hp):Nat→Ctx→Prop:=fun o C=>∃ hh,dm h hh∧if o=0 then
 ∃ (i:Nat) (b0 b1:Bool) (s6:bg),C=⟨[x.fuel,x.heap,x.stack,x.every,x.keep,x.hot,(i:Int)],[b0,b1],[x.src],[],[q.i,q.d,q.e,q.a,q.n,q.l,s6],[],hh,dY⟩∧i≤x.acts.length∧
  ∀ (j:Nat) a n,j<i→x.acts[j]? = some a→x.names[j]? = some n→mg gU a n=true
 else ∃ (i0:Int) (i:Nat) (b0 b1 b2:Bool) (s6:bg),C=⟨[x.fuel,x.heap,x.stack,x.every,x.keep,x.hot,i0,(i:Int)],[b0,b1,b2],[x.src],[],[q.i,q.d,q.e,q.a,q.n,q.l,s6],[],hh,dY⟩∧i≤x.lines.length∧
  jL gU x.acts x.names=true∧∀ (j:Nat) l,j<i→x.lines[j]? = some l→rf l=true
def Ug (x:gu):Nat→Ctx→Nat:=fun o C=>if o=0 then x.acts.length - (C.i.getD 6 0).toNat else x.lines.length - (C.i.getD 7 0).toNat
structure Zu (x:gu):Prop where
 src:x.src.length≤1000000
 lines:∀ l∈x.lines,l.length≤1000000
def sQ:Fm:=(.mk [.J 0,.J 1,.J 2,.J 3,.J 4,.J 5] 3 6
 (.C 43 [.L 6] (.p (.B 0)) ⟨0,1,0,0,0,0⟩
 (.ite (.or (.or (.not (.x 0)) (.not (.eqI (.cnt (.x 4)) (.cnt (.x 3))))) (.lt (.c 1000) (.cnt (.x 5))))
 (.ret (.p (.one (.b (.c false)))))
 (.loop 0 ⟨[(.c 0)],[(.c false)],[],[],[],[]⟩
 (.ite (.lt (.x 6) (.cnt (.x 3)))
 (.N (.X (.x 6) (.x 3))
 (.O (.el (.x 3) (.x 6) 3 0) 3 [.J 7,.J 8,.J 9] ⟨3,0,0,0,0,0⟩
 (.O (.el (.x 4) (.x 6) 1 0) 1 [(.s (.x 1))] ⟨0,0,1,0,0,0⟩
 (.N (.X (.x 6) (.x 4))
 (.C 44 [(.agg [.J 7,.J 8,.J 9]),.S 1] (.p (.B 2)) ⟨0,1,0,0,0,0⟩
 (.ite (.not (.x 2))
 (.ret (.p (.one (.b (.c false)))))
 (.N (.R (.add (.x 6) (.c 1)))
 (.again 0 ⟨6,1,1,0,7,0⟩ ⟨7,2,1,0,7,0⟩ ⟨[(.add (.x 6) (.c 1))],[(.x 1)],[],[],[],[]⟩))))))))
 (.loop 1 ⟨[(.c 0)],[(.x 1)],[],[],[],[]⟩
 (.ite (.lt (.x 7) (.cnt (.x 5)))
 (.N (.X (.x 7) (.x 5))
 (.O (.el (.x 5) (.x 7) 1 0) 1 [(.s (.x 1))] ⟨0,0,1,0,0,0⟩
 (.C 45 [.S 1,.W [10]] (.p (.B 3)) ⟨0,1,0,0,0,0⟩
 (.ite (.x 3)
 (.ret (.p (.one (.b (.c false)))))
 (.N (.R (.add (.x 7) (.c 1)))
 (.again 1 ⟨7,2,1,0,7,0⟩ ⟨8,3,1,0,7,0⟩ ⟨[(.add (.x 7) (.c 1))],[(.x 2)],[],[],[],[]⟩))))))
 (.call (.not (.eqS (.x 0) (.c []))) false 46 [.S 0,.W [10]] (.p (.B 3)) ⟨0,1,0,0,0,0⟩
 (.ite (.and (.not (.eqS (.x 0) (.c []))) (.not (.x 3)))
 (.ret (.p (.one (.b (.c false)))))
 (.N (.le (.add (.len (.c [10])) (.len (.x 0))) (.c 9223372036854775807))
 (.C 45 [(.one (.s (.app (.c [10]) (.x 0)))),.W [10,101,110,100,10]] (.p (.B 4)) ⟨0,1,0,0,0,0⟩
 (.ret (.p (.one (.b (.not (.x 4)))))))))))))))))
theorem P8:df ⟨true,[]⟩ Tryz.prog (fun l=>([⟨[2,48],[49,50,51,52,4,3,53,54,55,56,57,58,59,60,61],[4]⟩,⟨[2,65],[66,67,68,6,69,70,71],[]⟩]:List dL).getD l ⟨[],[],[]⟩) Tryz.f21=sQ:=by kernel_rfl
theorem UE:aX Tryz.prog .zero Tryz.f21.params.toList=some ([(.agg [(.sl (.x 0)),(.sl (.x 1)),.J 0,.J 1,.J 2,.J 3,.J 4,.J 5,(.sl (.x 2)),(.sl (.x 3)),(.sl (.x 4)),(.s (.x 0)),(.sl (.x 5))])],⟨6,0,1,0,6,0⟩):=by kernel_rfl
set_option maxHeartbeats 4000000 in
def Sl:Ct Tryz.prog where
 f:=21
 spec:=fun args h φ=>∃ q x,args=[.agg (bz q x).toArray]∧FX h q x∧XO x∧Zu x∧qy h∧φ (.bool (qY gU x)) h
 ok:=by
  rintro args h φ w ⟨q,x,rfl,R,L,T,hM,hφ⟩ hH
  refine fA (dD Tryz.func21 P8 UE [rZ,XV,yf,GZ] (fun v k=>∃ k',dm k' k∧φ v k') (Yf q x h) (Ug x) ⟨[x.fuel,x.heap,x.stack,x.every,x.keep,x.hot],[],[x.src],[],[q.i,q.d,q.e,q.a,q.n,q.l],[],h,dY⟩ ⟨rfl,rfl,rfl,rfl,rfl,rfl⟩ af ?_ w hH rfl)
  generalize hE:(⟨aB _,_,_,_⟩:Env)=E
  have s_ctWithin:E.spec 43=(rZ).spec:=by rw[← hE];rfl
  have s_ctAct:E.spec 44=(XV).spec:=by rw[← hE];rfl
  have s_ctContains:E.spec 45=(yf).spec:=by rw[← hE];rfl
  have s_ctSuffix:E.spec 46=(GZ).spec:=by rw[← hE];rfl
  have ep:E.post=(fun v k=>∃ k',dm k' k∧φ v k'):=by rw[← hE]
  have ei:E.inv=(Yf q x h):=by rw[← hE]
  have em:E.meas=(Ug x):=by rw[← hE]
  clear hE
  unfold sQ
  have hla:=L.a
  have hll:=L.l
  have na:=R.a.cnt
  have nn:=R.n.cnt
  have nl:=R.l.cnt
  have hmay:=Dl gU x
  have no:∀ (b:Bool) k,dm h k→b=qY gU x→∃ k',dm k' k∧φ (.bool b) k':=fun b k hk hb=>⟨h,hk,by rw[hb];exact hφ⟩
  rw[di]
  intro b hb
  have hb:h b=none:=hb
  have hle:=dF hb ⟨dQ [x.fuel,x.heap,x.stack,x.every,x.keep,x.hot],3⟩
  rw[ae,ak,if_pos (by rfl),s_ctWithin]
  refine⟨⟨some (b,0),6,6⟩,[x.fuel,x.heap,x.stack,x.every,x.keep,x.hot],rfl,MN h b [x.fuel,x.heap,x.stack,x.every,x.keep,x.hot] 3 rfl,by simp,?_⟩
  refine⟨fun h=>(by cases h),(ah _ _).2 ⟨⟨[],[(qE x)],[],[],[],[]⟩,rfl,af,rfl,?_⟩⟩
  by_cases hc:qE x=true∧x.names.length=x.acts.length∧x.lines.length≤1000
  rotate_left
  · rw [ae,ai,if_pos (by
     simp[go_sem,na,nn,nl]
     cases h6:qE x
     · exact .inl (.inl rfl)
     · by_cases h7:x.names.length=x.acts.length
       · right
         have:¬ x.lines.length≤1000:=fun h8=>hc ⟨h6,h7,h8⟩
         omega
       · left;right;omega)]
    rw[ae,aj,ep]
    refine no false _ hle ?_
    rw[hmay]
    cases h6:qE x
    · rfl
    · cases ha:jL gU x.acts x.names
      · rfl
      · have h7:=uF ha
        have:¬ x.lines.length≤1000:=fun h8=>hc ⟨h6,h7.symm,h8⟩
        rw[decide_eq_false this];rfl
  obtain⟨h6,h7,h8⟩:=hc
  rw[h6,Bool.true_and] at hmay
  rw[decide_eq_true h8,Bool.true_and] at hmay
  rw[ae,ai,if_neg (by simp[go_sem,na,nn,nl,h6,h7];omega)]
  rw[ae]
  refine aQ ?_ ?_
  · rw[ei]
    exact⟨_,hle,0,qE x,false,⟨some (b,0),6,6⟩,rfl,Nat.zero_le _,fun j a n hj=>by omega⟩
  clear hle
  rw[ei,em]
  rintro i' bb ss vv ll pp hh M ⟨hh',hle,i,b0,b1,s6,hC,hi,hall⟩ hM'
  cases hC
  have hM0:M 0=x.acts.length - i:=hM'
  by_cases hlt:i<x.acts.length
  · have hx:x.acts[i]? = some x.acts[i]:=List.getElem?_eq_getElem hlt
    have hxn:x.names[i]? = some (x.names[i]'(by omega)):=List.getElem?_eq_getElem _
    have e1:=R.a.nns (by omega)
    have e2:=R.n.nns (by omega)
    rw[ai,if_pos (by simp[go_sem,na];omega)]
    rw[ae,ag];refine⟨by simp[go_sem,na,e1,hlt],?_⟩
    rw[ae,au,if_pos (by rfl)]
    refine (ah _ _).2 ⟨⟨[x.acts[i].1,x.acts[i].2.2,x.acts[i].2.1],[],[],[],[],[]⟩,rfl,af,by simpa[go_sem] using (R.a.le hle).act hx,?_⟩
    rw[ae,au,if_pos (by rfl)]
    refine (ah _ _).2 ⟨⟨[],[],[x.names[i]'(by omega)],[],[],[]⟩,rfl,af,by simpa[go_sem] using (R.n.le hle).str hxn,?_⟩
    rw[ae,ag];refine⟨by simp[go_sem,nn,e2];omega,?_⟩
    rw[ae,ak,if_pos (by rfl),s_ctAct]
    refine⟨x.acts[i].1,x.acts[i].2.1,x.acts[i].2.2,x.names[i]'(by omega),rfl,?_⟩
    refine⟨fun h=>(by cases h),(ah _ _).2 ⟨⟨[],[(mg gU (x.acts[i].1,x.acts[i].2.1,x.acts[i].2.2) (x.names[i]'(by omega)))],[],[],[],[]⟩,rfl,af,rfl,?_⟩⟩
    cases hab:mg gU (x.acts[i].1,x.acts[i].2.1,x.acts[i].2.2) (x.names[i]'(by omega)) with
    | false=>
      rw[ae,ai,if_pos (by simp[go_sem])]
      rw[ae,aj,ep]
      refine no false _ hle ?_
      rw[hmay]
      have:jL gU x.acts x.names=false:=by
       rw[Bool.eq_false_iff]
       intro ha
       have:=(mr h7.symm).1 ha i _ _ hx hxn
       rw[hab] at this;cases this
      rw[this];rfl
    | true=>
      rw[ae,ai,if_neg (by simp[go_sem])]
      rw[ae,ag];refine⟨by simp[go_sem];omega,?_⟩
      rw[ae,says_again,ei,em]
      refine⟨⟨hh,hle,i+1,b0,b1,s6,rfl,by omega,fun j a n hj ha hn=>?_⟩,?_⟩
      · by_cases e:j=i
        · subst e
          rw[hx] at ha;cases ha
          rw[hxn] at hn;cases hn
          exact hab
        · exact hall j a n (by omega) ha hn
      · show x.acts.length - (((i:Int)+1).toNat)<M 0
        omega
  have hie:i=x.acts.length:=by omega
  have hacts:jL gU x.acts x.names=true:=(mr h7.symm).2 fun j a n ha hn=>hall j a n (by rw[hie];exact (List.getElem?_eq_some_iff.1 ha).1) ha hn
  rw[hacts,Bool.true_and] at hmay
  rw[ai,if_neg (by simp[go_sem,na];omega)]
  rw[ae]
  refine aQ ?_ ?_
  · rw[ei]
    exact⟨hh,hle,i,0,b0,b1,b1,s6,rfl,Nat.zero_le _,hacts,fun j l hj=>by omega⟩
  clear hle hM0 hM' hall
  rw[ei,em]
  rintro i' bb ss vv ll pp hh M ⟨hh',hle,i0,i,b0,b1,b2,s6,hC,hi,_,hall⟩ hM'
  cases hC
  have hM0:M 1=x.lines.length - i:=hM'
  by_cases hlt:i<x.lines.length
  · have hx:x.lines[i]? = some x.lines[i]:=List.getElem?_eq_getElem hlt
    have hxl:=T.lines x.lines[i] (List.getElem_mem hlt)
    have e1:=R.l.nns (by omega)
    rw[ai,if_pos (by simp[go_sem,nl];omega)]
    rw[ae,ag];refine⟨by simp[go_sem,nl,e1,hlt],?_⟩
    rw[ae,au,if_pos (by rfl)]
    refine (ah _ _).2 ⟨⟨[],[],[x.lines[i]],[],[],[]⟩,rfl,af,by simpa[go_sem] using (R.l.le hle).str hx,?_⟩
    rw[ae,ak,if_pos (by rfl),s_ctContains]
    refine⟨x.lines[i],[10],rfl,by omega,hM.le hle,?_⟩
    have hno:=IW x.lines[i]
    rw[← GH] at hno
    cases hct:Lib.contains x.lines[i] [10] with
    | true=>
      rw[hct] at hno
      refine⟨fun h=>(by cases h),(ah _ _).2 ⟨⟨[],[true],[],[],[],[]⟩,rfl,af,rfl,?_⟩⟩
      rw[ae,ai,if_pos (by simp[go_sem])]
      rw[ae,aj,ep]
      refine no false _ hle ?_
      rw[hmay]
      have:x.lines.all rf=false:=by
       rw[Bool.eq_false_iff]
       intro ha
       have:=List.all_eq_true.1 ha _ (List.getElem_mem hlt)
       rw[hno] at this;cases this
      rw[this];rfl
    | false=>
      rw[hct] at hno
      refine⟨fun h=>(by cases h),(ah _ _).2 ⟨⟨[],[false],[],[],[],[]⟩,rfl,af,rfl,?_⟩⟩
      rw[ae,ai,if_neg (by simp[go_sem])]
      rw[ae,ag];refine⟨by simp[go_sem];omega,?_⟩
      rw[ae,says_again,ei,em]
      refine⟨⟨hh,hle,i0,i+1,b0,b1,b2,s6,rfl,by omega,hacts,fun j l hj hl=>?_⟩,?_⟩
      · by_cases e:j=i
        · subst e
          rw[hx] at hl;cases hl
          exact hno
        · exact hall j l (by omega) hl
      · show x.lines.length - (((i:Int)+1).toNat)<M 1
        omega
  have hall10:x.lines.all rf=true:=by
   rw[List.all_eq_true]
   intro l hl
   obtain⟨j,hj,rfl⟩:=List.getElem_of_mem hl
   exact hall j _ (by omega) (List.getElem?_eq_getElem hj)
  rw[hall10,Bool.true_and] at hmay
  rw[ai,if_neg (by simp[go_sem,nl];omega)]
  have hsl:=T.src
  have last:∀ b3,(x.src=[]∨x.src.getLast? = some 10)→Then E sQ.k.k.e.k.e.k.e.k.e ⟨[x.fuel,x.heap,x.stack,x.every,x.keep,x.hot,i0,(i:Int)],[b0,b1,b2,b3],[x.src],[],[q.i,q.d,q.e,q.a,q.n,q.l,s6],[],hh,M⟩:=by
   intro b3 hs
   dsimp only[sQ,Fm.k,Fm.e]
   rw[ae,ag];refine⟨by simp[go_sem];omega,?_⟩
   rw[ae,ak,if_pos (by rfl),s_ctContains]
   refine⟨[10]++x.src,[10,101,110,100,10],rfl,by simp;omega,hM.le hle,?_⟩
   refine⟨fun h=>(by cases h),(ah _ _).2 ⟨⟨[],[(Lib.contains ([10]++x.src) [10,101,110,100,10])],[],[],[],[]⟩,rfl,af,rfl,?_⟩⟩
   rw[ae,aj,ep]
   refine no _ _ hle ?_
   rw[hmay,src_ok hs];rfl
  by_cases hs0:x.src=[]
  · rw[ae,ak,if_neg (by simp[go_sem,hs0])]
    rw[ae,ai,if_neg (by simp[go_sem,hs0])]
    exact last _ (.inl hs0)
  · rw[ae,ak,if_pos (by simp[go_sem,hs0]),s_ctSuffix]
    refine⟨x.src,[10],rfl,by omega,?_⟩
    rw[Np]
    by_cases hs1:x.src.getLast? = some 10
    · rw[decide_eq_true hs1]
      refine⟨fun h=>(by cases h),(ah _ _).2 ⟨⟨[],[true],[],[],[],[]⟩,rfl,af,rfl,?_⟩⟩
      rw[ae,ai,if_neg (by simp[go_sem])]
      exact last _ (.inr hs1)
    · rw[decide_eq_false hs1]
      refine⟨fun h=>(by cases h),(ah _ _).2 ⟨⟨[],[false],[],[],[],[]⟩,rfl,af,rfl,?_⟩⟩
      rw[ae,ai,if_pos (by simp[go_sem,hs0])]
      rw[ae,aj,ep]
      refine no false _ hle ?_
      rw[hmay,O6 (fun h=>h.elim hs0 hs1)]
end Go.Proofs.YtgpanefhaiohnaaGreatDoor
namespace Go.Proofs.YtgpanefhaiohnaaGreatDoor
open Go.RowKit
attribute [local go_sem] aZ aY ag ai ak aN au aC aj says_again BE.den IE.den SE.den LE.den AE.den CE.den PE.den VE.den KV.val dw.den dw.cnt iM dU iY allL Ctx.push Ctx.heap Ctx.cut Ctx.bare Ctx.mark Inc.blank List.getD_cons_zero List.getD_cons_succ List.cons_append List.nil_append List.append_nil List.map_cons List.map_nil List.replicate_zero List.replicate_succ aB bQ bu bG bn bY cO aU aT aV bF bD aF aO aH aA ax aS aI bW af and_assoc
def Oi:Fm:=(.loop 0 ⟨[(.c 0)],[],[(.x 0)],[],[],[]⟩
 (.ite (.lt (.x 0) (.cnt (.x 0)))
 (.N (.X (.x 0) (.x 0))
 (.O (.el (.x 0) (.x 0) 1 0) 1 [.J 1] ⟨1,0,0,0,0,0⟩
 (.C 49 [.J 1] (.p (.S 2)) ⟨0,0,1,0,0,0⟩
 (.N (.le (.add (.len (.c [32])) (.len (.x 2))) (.c 9223372036854775807))
 (.N (.le (.add (.len (.x 1)) (.len (.app (.c [32]) (.x 2)))) (.c 9223372036854775807))
 (.N (.R (.add (.x 0) (.c 1)))
 (.again 0 ⟨0,0,1,0,1,0⟩ ⟨1,0,2,0,1,0⟩ ⟨[(.add (.x 0) (.c 1))],[],[(.app (.x 1) (.app (.c [32]) (.x 2)))],[],[],[]⟩)))))))
 (.N (.le (.add (.len (.x 1)) (.len (.c [10]))) (.c 9223372036854775807))
 (.ret (.p (.one (.s (.app (.x 1) (.c [10])))))))))
theorem TA:df ⟨true,[]⟩ Tryz.prog (fun l=>([⟨[0,9],[10,11,12,6,13,14,15,16,17,18],[]⟩]:List dL).getD l ⟨[],[],[]⟩) Tryz.f25=Oi:=by kernel_rfl
theorem Xi:aX Tryz.prog .zero Tryz.f25.params.toList=some ([.S 0,.L 0],⟨0,0,1,0,1,0⟩):=by kernel_rfl
def N9:Fm:=(.Z 0
 (.Z 0
 (.O (.pt 0 1) 1 [(.sl (.x 0))] ⟨0,0,0,0,1,0⟩
 (.ret (.p (.I (.cnt (.x 0))))))))
theorem Tj:df ⟨true,[]⟩ Tryz.prog (fun l=>([]:List dL).getD l ⟨[],[],[]⟩) Tryz.f26=N9:=by kernel_rfl
theorem Xd:aX Tryz.prog .zero Tryz.f26.params.toList=some ([.P 0],⟨0,0,0,0,0,1⟩):=by kernel_rfl
def Oh:Fm:=(.N (.le (.add (.len (.x 0)) (.len (.c [32]))) (.c 9223372036854775807))
 (.C 24 [.J 0] (.p (.S 1)) ⟨0,0,1,0,0,0⟩
 (.N (.le (.add (.len (.app (.x 0) (.c [32]))) (.len (.x 1))) (.c 9223372036854775807))
 (.N (.le (.add (.len (.app (.app (.x 0) (.c [32])) (.x 1))) (.len (.c [10]))) (.c 9223372036854775807))
 (.C 23 [.P 0,(.one (.s (.app (.app (.app (.x 0) (.c [32])) (.x 1)) (.c [10]))))] (.tup [.J 1,(.one (.v 0))]) ⟨1,0,0,1,0,0⟩
 .E)))))
theorem Tz:qU ⟨true,[]⟩ Tryz.prog (fun l=>([]:List dL).getD l ⟨[],[],[]⟩) Tryz.f22 [.S 0,.J 0,.P 0] ⟨1,0,1,0,0,1⟩=Oh:=by kernel_rfl
theorem jE (n:Int):(txt n).length≤21:=by
 have hg:∀ (k m:Nat) (t:List UInt8),(Rh k m t).length≤k+t.length:=by
  intro k
  induction k with
  | zero=>intro m t;simp[Rh]
  | succ k ih=>
    intro m t
    rw[Rh]
    split
    · simp;omega
    · have:=ih (m / 10) (dg (m % 10)::t)
      simp at this ⊢;omega
 have h2:∀ m,(dec m).length≤20:=fun m=>by have:=hg 20 m [];simpa[dec] using this
 have:=h2 n.natAbs
 unfold txt
 split<;>simp<;>omega
theorem Ju (w:List UInt8) (l:List Int) (n:Int):row w (l++[n])=row w l++([32]++txt n):=by
 simp[row]
theorem bI:∀ (l:List Int) (w:List UInt8),(row w l).length≤w.length+22*l.length
 | [],w=>by simp[row]
 | n::l,w=>by
   rw[zZ]
   have h1:=bI l (txt n)
   have h2:=jE n
   simp;omega
def OY (wd:List UInt8) (s:bg) (l:List Int) (h:Hp):Nat→Ctx→Prop:=fun _ C=>∃ (i:Nat),C=⟨[(i:Int)],[],[wd,row wd (l.take i)],[],[s],[],h,dY⟩∧i≤l.length
set_option maxHeartbeats 1000000 in
def XW:Ct Tryz.prog where
 f:=25
 spec:=fun args h φ=>∃ wd s l,args=[.string (B wd),s.val]∧Row h s (dQ l) l.length 1∧l.length≤1000000∧wd.length≤100∧(∀ n∈l,AP n)∧φ (.string (B (row wd l++[10]))) h
 ok:=by
  rintro args h φ w ⟨wd,s,l,rfl,R,hl,hwl,hN,hφ⟩ hH
  refine dD Tryz.func25 TA Xi [NJ] φ (OY wd s l h) (jW l.length) ⟨[],[],[wd],[],[s],[],h,dY⟩ ⟨rfl,rfl,rfl,rfl,rfl,rfl⟩ af ?_ w hH rfl
  generalize hE:(⟨aB _,_,_,_⟩:Env)=E
  have s_ctNText:E.spec 49=(NJ).spec:=by rw[← hE];rfl
  have ep:E.post=φ:=by rw[← hE]
  have ei:E.inv=(OY wd s l h):=by rw[← hE]
  have em:E.meas=(jW l.length):=by rw[← hE]
  clear hE
  unfold Oi
  have n1:=R.cnt
  have hlen:∀ i,(row wd (l.take i)).length≤100+22*l.length:=fun i=>by
   have:=bI (l.take i) wd
   rw[List.length_take] at this
   omega
  refine aQ ?_ ?_
  · rw[ei]
    exact⟨0,by simp[row];rfl,Nat.zero_le _⟩
  rw[ei,em]
  rintro i' bb ss vv ll pp hh M ⟨i,hC,hi⟩ hM
  cases hC
  have hM':M 0=l.length - i:=hM
  have hri:=hlen i
  by_cases hlt:i<l.length
  · have hx:l[i]? = some l[i]:=List.getElem?_eq_getElem hlt
    have e1:=R.nns (by omega)
    have hn:=hN l[i] (List.getElem_mem hlt)
    have ht:=jE l[i]
    rw[ai,if_pos (by simp[go_sem,n1];omega)]
    rw[ae,ag];refine⟨by simp[go_sem,n1,e1,hlt],?_⟩
    rw[ae,au,if_pos (by rfl)]
    refine (ah _ _).2 ⟨⟨[l[i]],[],[],[],[],[]⟩,rfl,af,by simpa[go_sem] using R.int hx,?_⟩
    rw[ae,ak,if_pos (by rfl),s_ctNText]
    refine⟨l[i],rfl,hn.1,hn.2,?_⟩
    refine⟨fun h=>(by cases h),(ah _ _).2 ⟨⟨[],[],[txt l[i]],[],[],[]⟩,rfl,af,rfl,?_⟩⟩
    rw[ae,ag];refine⟨by simp[go_sem];omega,?_⟩
    rw[ae,ag];refine⟨by simp[go_sem];omega,?_⟩
    rw[ae,ag];refine⟨by simp[go_sem];omega,?_⟩
    rw[ae,says_again,ei,em]
    have hs:row wd (l.take (i+1))=row wd (l.take i)++([32]++txt l[i]):=by rw[← Ju];simp
    refine⟨⟨i+1,by rw[hs];rfl,by omega⟩,?_⟩
    show l.length - (((i:Int)+1).toNat)<M 0
    omega
  · have hie:i=l.length:=by omega
    subst hie
    rw[List.take_length] at hri⊢
    rw[ai,if_neg (by simp[go_sem,n1])]
    rw[ae,ag];refine⟨by simp[go_sem];omega,?_⟩
    rw[ae,aj,ep]
    exact hφ
structure Wr (h0 k:Hp) (b:Nat) (l:List UInt8):Prop where
 ex:∃ used sl,VP k b used sl l∧∀ z,sl.a=some z→h0 z.1=none
 le:dm h0 k
 nb:h0 b=none
def rY:Ct Tryz.prog where
 f:=23
 spec:=fun args h φ=>∃ h0 b l s,args=[.pointer (some ⟨b,0,none⟩),.string (B s)]∧Wr h0 h b l∧l.length+s.length≤1000000000000∧∀ k,Wr h0 k b (l++s)→φ (.tuple #[.int .i64 s.length,.nilIface]) k
 ok:=by
  rintro args h φ w ⟨h0,b,l,s,rfl,W,hl,hφ⟩ hH
  obtain⟨used,sl,X,hf⟩:=W.ex
  refine Sj.ok _ h φ w ⟨b,used,sl,l,s,rfl,X,hl,fun sl' k X' G=>hφ k ⟨⟨true,sl',X',fun z hz=>?_⟩,fun c o hc=>?_,W.nb⟩⟩ hH
  · rcases G.2 z hz with ⟨y,hy,e⟩ | h1
    · rw[← e];exact hf y hy
    · cases hq:h0 z.1 with
      | none=>rfl
      | some o=>rw[W.le _ _ hq] at h1;cases h1
  · exact G.1 c o (fun e=>by rw[e,W.nb] at hc;cases hc) (fun z hz e=>by rw[← e,hf z hz] at hc;cases hc) (W.le c o hc)
theorem xI.le {h k:Hp} (P:xI h) (hl:dm h k):xI k:=hl _ _ P
set_option maxHeartbeats 1000000 in
def NK:Ct Tryz.prog where
 f:=22
 spec:=fun args h φ=>∃ h0 b l wd n,args=[.string (B wd),.int .i64 n,.pointer (some ⟨b,0,none⟩)]∧Wr h0 h b l∧AP n∧xI h0∧wd.length≤100∧l.length≤100000000000∧∀ k,Wr h0 k b (l++(row wd [n]++[10]))→φ (.tuple #[]) k
 ok:=by
  rintro args h φ w ⟨h0,b,l,wd,n,rfl,W,hn,hp,hwl,hll,hφ⟩ hH
  refine J9 Tryz.func22 Tz [Eo,rY] φ ig eX ⟨[n],[],[wd],[],[],[some (b,0)],h,dY⟩ ⟨rfl,rfl,rfl,rfl,rfl,rfl⟩ af ?_ w hH rfl
  generalize hE:(⟨aB _,_,_,_⟩:Env)=E
  have s_ctItoa:E.spec 24=Eo.spec:=by rw[← hE];rfl
  have s_ctWWrite:E.spec 23=rY.spec:=by rw[← hE];rfl
  have ep:E.post=φ:=by rw[← hE]
  clear hE
  unfold Oh
  have ht:=jE n
  rw[ag];refine⟨by simp[go_sem];omega,?_⟩
  rw[ae,ak,if_pos (by rfl),s_ctItoa]
  refine⟨n,rfl,hn.1,hn.2,hp.le W.le,?_⟩
  refine⟨fun h=>(by cases h),(ah _ _).2 ⟨⟨[],[],[txt n],[],[],[]⟩,rfl,af,rfl,?_⟩⟩
  rw[ae,ag];refine⟨by simp[go_sem];omega,?_⟩
  rw[ae,ag];refine⟨by simp[go_sem];omega,?_⟩
  rw[ae,ak,if_pos (by rfl),s_ctWWrite]
  refine⟨h0,b,l,wd++[32]++txt n++[10],rfl,W,by simp;omega,fun k Wk=>?_⟩
  refine⟨fun h=>(by cases h),(ah _ _).2 ⟨⟨[((wd++[32]++txt n++[10]).length:Nat)],[],[],[.nilIface],[],[]⟩,rfl,fun u hu=>(by simp at hu;subst hu;rfl),rfl,?_⟩⟩
  rw[ae,aj,ep]
  refine hφ k ?_
  have e:row wd [n]++[10]=wd++[32]++txt n++[10]:=by simp[row]
  rw[e];exact Wk
end Go.Proofs.YtgpanefhaiohnaaGreatDoor
namespace Go.Proofs.YtgpanefhaiohnaaGreatDoor
open Go.RowKit
attribute [local go_sem] aZ aY ag ai ak aN au aC aj says_again BE.den IE.den SE.den LE.den AE.den CE.den PE.den VE.den KV.val dw.den dw.cnt iM dU iY allL Ctx.push Ctx.heap Ctx.cut Ctx.bare Ctx.mark Inc.blank List.getD_cons_zero List.getD_cons_succ List.cons_append List.nil_append List.append_nil List.map_cons List.map_nil List.replicate_zero List.replicate_succ aB bQ bu bG bn bY cO aU aT aV bF bD aF aO aH aA ax aS aI bW af and_assoc
def H9:Fm:=(.C 21 [(.agg [(.sl (.x 0)),(.sl (.x 1)),.J 0,.J 1,.J 2,.J 3,.J 4,.J 5,(.sl (.x 2)),(.sl (.x 3)),(.sl (.x 4)),(.s (.x 0)),(.sl (.x 5))])] (.p (.B 0)) ⟨0,1,0,0,0,0⟩
 (.ite (.not (.x 0))
 (.ret (.tup [.W [],(.I (.c 1))]))
 (.new [(.c .nilp),(.sl .nil)] 58
 (.V 22 [.W [102,117,101,108],.J 0,.P 0]
 (.V 22 [.W [104,101,97,112],.J 1,.P 0]
 (.V 22 [.W [115,116,97,99,107],.J 2,.P 0]
 (.C 25 [.W [105,110],.L 0] (.p (.S 1)) ⟨0,0,1,0,0,0⟩
 (.C 23 [.P 0,.S 1] (.tup [.J 6,(.one (.v 0))]) ⟨1,0,0,1,0,0⟩
 (.C 25 [.W [100,114,97,119],.L 1] (.p (.S 2)) ⟨0,0,1,0,0,0⟩
 (.C 23 [.P 0,.S 2] (.tup [.J 7,(.one (.v 1))]) ⟨1,0,0,1,0,0⟩
 (.V 22 [.W [101,118,101,114,121],.J 3,.P 0]
 (.V 22 [.W [107,101,101,112],.J 4,.P 0]
 (.V 22 [.W [104,111,116],.J 5,.P 0]
 (.loop 0 ⟨[(.c 0)],[],[],[],[.nil],[]⟩
 (.ite (.lt (.x 8) (.cnt (.x 2)))
 (.N (.X (.x 8) (.x 2))
 (.O (.el (.x 2) (.x 8) 1 0) 1 [.J 9] ⟨1,0,0,0,0,0⟩
 (.mk [.J 9] 2 1
 (.app (.x 6) (.x 7) 1 8 2
 (.N (.R (.add (.x 8) (.c 1)))
 (.again 0 ⟨8,1,3,2,6,1⟩ ⟨9,1,3,2,7,1⟩ ⟨[(.add (.x 8) (.c 1))],[],[],[],[(.x 8)],[]⟩))))))
 (.C 25 [.W [101,118,105,99,116],.L 6] (.p (.S 3)) ⟨0,0,1,0,0,0⟩
 (.C 23 [.P 0,.S 3] (.tup [.J 9,(.one (.v 2))]) ⟨1,0,0,1,0,0⟩
 (.loop 1 ⟨[(.c 0)],[],[],[],[],[]⟩
 (.ite (.lt (.x 10) (.cnt (.x 3)))
 (.N (.X (.x 10) (.x 3))
 (.O (.el (.x 3) (.x 10) 3 0) 3 [.J 11,.J 12,.J 13] ⟨3,0,0,0,0,0⟩
 (.C 24 [.J 11] (.p (.S 4)) ⟨0,0,1,0,0,0⟩
 (.ite (.eqI (.x 12) (.c 1))
 (.N (.le (.add (.len (.c [117,112,32])) (.len (.x 4))) (.c 9223372036854775807))
 (.N (.le (.add (.len (.app (.c [117,112,32]) (.x 4))) (.len (.c [32]))) (.c 9223372036854775807))
 (.N (.X (.x 10) (.x 4))
 (.O (.el (.x 4) (.x 10) 1 0) 1 [(.s (.x 5))] ⟨0,0,1,0,0,0⟩
 (.N (.le (.add (.len (.app (.app (.c [117,112,32]) (.x 4)) (.c [32]))) (.len (.x 5))) (.c 9223372036854775807))
 (.N (.le (.add (.len (.app (.app (.app (.c [117,112,32]) (.x 4)) (.c [32])) (.x 5))) (.len (.c [10]))) (.c 9223372036854775807))
 (.C 23 [.P 0,(.one (.s (.app (.app (.app (.app (.c [117,112,32]) (.x 4)) (.c [32])) (.x 5)) (.c [10]))))] (.tup [.J 14,(.one (.v 3))]) ⟨1,0,0,1,0,0⟩
 (.N (.R (.add (.x 10) (.c 1)))
 (.again 1 ⟨10,1,4,3,7,1⟩ ⟨11,1,4,3,7,1⟩ ⟨[(.add (.x 10) (.c 1))],[],[],[],[],[]⟩)))))))))
 (.ite (.eqI (.x 12) (.c 2))
 (.N (.le (.add (.len (.c [100,111,119,110,32])) (.len (.x 4))) (.c 9223372036854775807))
 (.N (.le (.add (.len (.app (.c [100,111,119,110,32]) (.x 4))) (.len (.c [32]))) (.c 9223372036854775807))
 (.N (.X (.x 10) (.x 4))
 (.O (.el (.x 4) (.x 10) 1 0) 1 [(.s (.x 5))] ⟨0,0,1,0,0,0⟩
 (.N (.le (.add (.len (.app (.app (.c [100,111,119,110,32]) (.x 4)) (.c [32]))) (.len (.x 5))) (.c 9223372036854775807))
 (.N (.le (.add (.len (.app (.app (.app (.c [100,111,119,110,32]) (.x 4)) (.c [32])) (.x 5))) (.len (.c [10]))) (.c 9223372036854775807))
 (.C 23 [.P 0,(.one (.s (.app (.app (.app (.app (.c [100,111,119,110,32]) (.x 4)) (.c [32])) (.x 5)) (.c [10]))))] (.tup [.J 14,(.one (.v 3))]) ⟨1,0,0,1,0,0⟩
 (.N (.R (.add (.x 10) (.c 1)))
 (.again 1 ⟨10,1,4,3,7,1⟩ ⟨11,1,4,3,7,1⟩ ⟨[(.add (.x 10) (.c 1))],[],[],[],[],[]⟩)))))))))
 (.N (.le (.add (.len (.c [98,97,115,101,32])) (.len (.x 4))) (.c 9223372036854775807))
 (.N (.le (.add (.len (.app (.c [98,97,115,101,32]) (.x 4))) (.len (.c [10]))) (.c 9223372036854775807))
 (.C 23 [.P 0,(.one (.s (.app (.app (.c [98,97,115,101,32]) (.x 4)) (.c [10]))))] (.tup [.J 14,(.one (.v 3))]) ⟨1,0,0,1,0,0⟩
 (.N (.R (.add (.x 10) (.c 1)))
 (.again 1 ⟨10,1,4,3,7,1⟩ ⟨11,1,4,3,7,1⟩ ⟨[(.add (.x 10) (.c 1))],[],[],[],[],[]⟩))))))))))
 (.N (.le (.add (.len (.c [112,114,111,103,114,97,109,10])) (.len (.x 0))) (.c 9223372036854775807))
 (.N (.le (.add (.len (.app (.c [112,114,111,103,114,97,109,10]) (.x 0))) (.len (.c [101,110,100,10]))) (.c 9223372036854775807))
 (.C 23 [.P 0,(.one (.s (.app (.app (.c [112,114,111,103,114,97,109,10]) (.x 0)) (.c [101,110,100,10]))))] (.tup [.J 11,(.one (.v 3))]) ⟨1,0,0,1,0,0⟩
 (.loop 2 ⟨[(.c 0)],[],[],[],[],[]⟩
 (.ite (.lt (.x 12) (.cnt (.x 5)))
 (.N (.X (.x 12) (.x 5))
 (.O (.el (.x 5) (.x 12) 1 0) 1 [(.s (.x 4))] ⟨0,0,1,0,0,0⟩
 (.N (.le (.add (.len (.x 4)) (.len (.c [10]))) (.c 9223372036854775807))
 (.C 23 [.P 0,(.one (.s (.app (.x 4) (.c [10]))))] (.tup [.J 13,(.one (.v 4))]) ⟨1,0,0,1,0,0⟩
 (.N (.R (.add (.x 12) (.c 1)))
 (.again 2 ⟨12,1,4,4,7,1⟩ ⟨13,1,4,4,7,1⟩ ⟨[(.add (.x 12) (.c 1))],[],[],[],[],[]⟩))))))
 (.C 26 [.P 0] (.p (.J 13)) ⟨1,0,0,0,0,0⟩
 (.ite (.lt (.c 131072) (.x 13))
 (.ret (.tup [.W [],(.I (.c 3))]))
 (.C 27 [.P 0] (.p (.S 4)) ⟨0,0,1,0,0,0⟩
 (.ret (.tup [.S 4,(.I (.c 0))])))))))))))))))))))))))))))))
theorem Qd:df ⟨true,[4]⟩ Tryz.prog (fun l=>([⟨[6,62],[63,64,65,8,66,67,68,69,70],[]⟩,⟨[78],[79,80,81,82,10,9,83,84,85,11,86,87,93,92,94,95,96,97,98,99,100,101,102,103,104,106,105,107,108,109,110,111,112,113,114,115,116,117,88,89,90,91,118],[10]⟩,⟨[127],[128,129,130,13,131,132,133,134],[]⟩]:List dL).getD l ⟨[],[],[]⟩) Tryz.f9=H9:=by kernel_rfl
theorem UI:aX Tryz.prog .zero Tryz.f9.params.toList=some ([(.agg [(.sl (.x 0)),(.sl (.x 1)),.J 0,.J 1,.J 2,.J 3,.J 4,.J 5,(.sl (.x 2)),(.sl (.x 3)),(.sl (.x 4)),(.s (.x 0)),(.sl (.x 5))])],⟨6,0,1,0,6,0⟩):=by kernel_rfl
def Si:Ct Tryz.prog where
 f:=26
 spec:=fun args h φ=>∃ h0 b l,args=[.pointer (some ⟨b,0,none⟩)]∧Wr h0 h b l∧φ (.int .i64 (l.length:Nat)) h
 ok:=by
  rintro args h φ w ⟨h0,b,l,rfl,W,hφ⟩ hH
  obtain⟨used,sl,X,hf⟩:=W.ex
  refine dD Tryz.func26 Tj Xd [] φ (ig) (eX) ⟨[],[],[],[],[],[some (b,0)],h,dY⟩ ⟨rfl,rfl,rfl,rfl,rfl,rfl⟩ af ?_ w hH rfl
  generalize hE:(⟨aB _,_,_,_⟩:Env)=E
  have ep:E.post=φ:=by rw[← hE]
  clear hE
  unfold N9
  rw[ag];refine⟨by simp[go_sem],?_⟩
  rw[ae,ag];refine⟨by simp[go_sem],?_⟩
  rw[ae,au,if_pos (by rfl)]
  refine (ah _ _).2 ⟨⟨[],[],[],[],[sl],[]⟩,rfl,af,lM X.at_ rfl,?_⟩
  rw[ae,aj,ep]
  rw[← X.n] at hφ
  exact hφ
def BB:Ct Tryz.prog where
 f:=27
 spec:=fun args h φ=>∃ h0 b l,args=[.pointer (some ⟨b,0,none⟩)]∧Wr h0 h b l∧∀ k,dm h0 k→φ (.string (B l)) k
 ok:=by
  rintro args h φ w ⟨h0,b,l,rfl,W,hφ⟩ hH
  obtain⟨used,sl,X,hf⟩:=W.ex
  refine Sr.ok _ h φ w ⟨b,used,sl,l,rfl,X,hφ _ fun c o hc=>?_⟩ hH
  unfold Hp.drop
  cases hs:sl.a with
  | none=>exact W.le c o hc
  | some z=>
    show (h.del z.1) c=some o
    have:c≠z.1:=fun e=>by rw[e,hf z hs] at hc;cases hc
    simp only[Hp.del,if_neg this]
    exact W.le c o hc
theorem Wr.app {h0 k k':Hp} {b:Nat} {l:List UInt8} (W:Wr h0 k b l) {s:bg} {xs:List Value} {T:TypeId} {sz:Nat} (O:bJ k s xs T sz) (h1:T≠BT) (h2:T≠5) (hf:∀ z,s.a=some z→h0 z.1=none)
 (hk:∀ c o,(∀ z,s.a=some z→z.1≠c)→k c=some o→k' c=some o):Wr h0 k' b l:=by
 obtain⟨used,sl,X,hx⟩:=W.ex
 have hb:∀ z,s.a=some z→z.1≠b:=own_ne O X.at_ h1
 refine⟨⟨used,sl,⟨hk _ _ hb X.at_,cZ X.own fun z cs hz hc=>hk _ _ (fun y hy e=>?_) hc,X.n,X.ne,X.fit,X.pos⟩,hx⟩,fun c o hc=>hk c o (fun z hz e=>by rw[← e,hf z hz] at hc;cases hc) (W.le c o hc),W.nb⟩
 obtain⟨c2,h3⟩:=oV O hy
 rw[e,hc] at h3
 cases h3;exact h2 rfl
theorem Wr.new {h0 k:Hp} {b:Nat} {l:List UInt8} (W:Wr h0 k b l) {c:Nat} (hc:k c=none) (o:HO):Wr h0 (k.set c o) b l:=by
 obtain⟨used,sl,X,hx⟩:=W.ex
 have hle:=dF hc o
 refine⟨⟨used,sl,⟨hle _ _ X.at_,jG X.own hle,X.n,X.ne,X.fit,X.pos⟩,hx⟩,fun d u hd=>hle _ _ (W.le d u hd),W.nb⟩
def hd9 (x:gu):List (List UInt8):=[row iH [x.fuel],row iI [x.heap],row fM [x.stack],row qx x.ins,row eG x.draws,row fK [x.every],row iJ [x.keep],row lG [x.hot],row dP x.evict]
theorem Aw (x:gu):textS x=dG (hd9 x++bP x.acts x.names)++(dE++[10]++x.src++(fD++[10]))++dG x.lines:=by
 unfold textS uM
 rw[show dG (fD::x.lines)=fD++10::dG x.lines from gq _ _]
 rw[dS]
 simp[hd9]
theorem qo (x:gu):(textS x).length=(dG (hd9 x)).length+(dG (bP x.acts x.names)).length+(12+x.src.length)+(dG x.lines).length:=by
 rw[Aw,List.length_append,List.length_append,dB]
 simp[dE,fD];omega
theorem Ec:∀ {l:List (Int×Int×Int)} {k:List (List UInt8)} {i:Nat} {a:Int×Int×Int} {n:List UInt8},l[i]? = some a→k[i]? = some n→bP (l.take (i+1)) (k.take (i+1))=bP (l.take i) (k.take i)++[gY a n]
 | [],_,_,_,_,h,_=>by simp at h
 | _::_,[],_,_,_,_,h=>by simp at h
 | b::l,m::k,0,a,n,h,h'=>by
   simp at h h';subst h h'
   simp[bP]
 | b::l,m::k,i+1,a,n,h,h'=>by
   rw[List.take_succ_cons,List.take_succ_cons,List.take_succ_cons,List.take_succ_cons,bP,bP,Ec (by simpa using h) (by simpa using h')]
   rfl
theorem lW:∀ (l:List (Int×Int×Int)) (k:List (List UInt8)) (i:Nat),(dG (bP (l.take i) (k.take i))).length≤(dG (bP l k)).length
 | [],_,i=>by simp[bP]
 | _::_,[],i=>by cases i<;>simp[bP]
 | a::l,n::k,0=>by simp[bP,dG]
 | a::l,n::k,i+1=>by
   rw[List.take_succ_cons,List.take_succ_cons,bP,bP,bH,bH]
   have:=lW l k i
   omega
theorem ry {nm:List UInt8→Bool}:∀ {l:List (Int×Int×Int)} {k:List (List UInt8)},kW nm l k→l.length=k.length∧∀ (i:Nat) a n,l[i]? = some a→k[i]? = some n→wH nm a n:=by
 intro l k H
 induction H with
 | nil=>exact⟨rfl,fun i a n h=>by simp at h⟩
 | cons h1 h2 ih=>
   refine⟨by simp[ih.1],fun i a n ha hn=>?_⟩
   cases i with
   | zero=>simp at ha hn;subst ha hn;exact h1
   | succ i=>exact ih.2 i a n (by simpa using ha) (by simpa using hn)
def Yp (h:Hp) (q:Ss) (x:gu):Nat→Ctx→Prop:=fun o C=>∃ (hh:Hp) (b:Nat) (w6 w7:Int) (r1 r2:List UInt8) (v0 v1:Value) (b0:Bool),Value.oneCell' v0=true∧Value.oneCell' v1=true∧
 if o=0 then ∃ (j:Nat) (cur:bg),C=⟨[x.fuel,x.heap,x.stack,x.every,x.keep,x.hot,w6,w7,(j:Int)],[b0],[x.src,r1,r2],[v0,v1],[q.i,q.d,q.e,q.a,q.n,q.l,cur],[some (b,0)],hh,dY⟩∧Wr h hh b (dG ((hd9 x).take 8))∧
  bJ hh cur (dQ (x.evict.take j)) I6 1∧cur.n=j∧(∀ z,cur.a=some z→h z.1=none)∧j≤x.evict.length
 else if o=1 then ∃ (j w9:Int) (i:Nat) (r3:List UInt8) (v2:Value) (cur:bg),C=⟨[x.fuel,x.heap,x.stack,x.every,x.keep,x.hot,w6,w7,j,w9,(i:Int)],[b0],[x.src,r1,r2,r3],[v0,v1,v2],[q.i,q.d,q.e,q.a,q.n,q.l,cur],[some (b,0)],hh,dY⟩∧
  Wr h hh b (dG (hd9 x++bP (x.acts.take i) (x.names.take i)))∧i≤x.acts.length∧Value.oneCell' v2=true
 else ∃ (j w9 w10 w11:Int) (i:Nat) (r3:List UInt8) (v2 v3:Value) (cur:bg),C=⟨[x.fuel,x.heap,x.stack,x.every,x.keep,x.hot,w6,w7,j,w9,w10,w11,(i:Int)],[b0],[x.src,r1,r2,r3],[v0,v1,v2,v3],[q.i,q.d,q.e,q.a,q.n,q.l,cur],[some (b,0)],hh,dY⟩∧
  Wr h hh b (dG (hd9 x++bP x.acts x.names)++(dE++[10]++x.src++(fD++[10]))++dG (x.lines.take i))∧i≤x.lines.length
def Vx (x:gu):Nat→Ctx→Nat:=fun o C=>if o=0 then x.evict.length - (C.i.getD 8 0).toNat else if o=1 then x.acts.length - (C.i.getD 10 0).toNat else x.lines.length - (C.i.getD 12 0).toNat
set_option maxHeartbeats 8000000 in
def xn:Ct Tryz.prog where
 f:=9
 spec:=fun args h φ=>∃ q x,args=[.agg (bz q x).toArray]∧FX h q x∧XO x∧Zu x∧Zl x∧qy h∧xI h∧(textS x).length≤10000000000∧(qY gU x=false→φ (.tuple #[.string (B []),.int .i64 1]) h)∧
  (qY gU x=true→131072<(textS x).length→φ (.tuple #[.string (B []),.int .i64 3]) h)∧(qY gU x=true→¬ 131072<(textS x).length→φ (.tuple #[.string (B (textS x)),.int .i64 0]) h)
 ok:=by
  rintro args h φ w ⟨q,x,rfl,R,L,T,N,hM,hP,hTL,hno,hlong,hyes⟩ hH
  refine fA (dD Tryz.func9 Qd UI [Sl,NK,XW,rY,Eo,Si,BB] (fun v k=>∃ k',dm k' k∧φ v k') (Yp h q x) (Vx x) ⟨[x.fuel,x.heap,x.stack,x.every,x.keep,x.hot],[],[x.src],[],[q.i,q.d,q.e,q.a,q.n,q.l],[],h,dY⟩ ⟨rfl,rfl,rfl,rfl,rfl,rfl⟩ af ?_ w hH rfl)
  generalize hE:(⟨aB _,_,_,_⟩:Env)=E
  have s_ctMayS:E.spec 21=(Sl).spec:=by rw[← hE];rfl
  have s_ctOne29:E.spec 22=(NK).spec:=by rw[← hE];rfl
  have s_ctRow:E.spec 25=(XW).spec:=by rw[← hE];rfl
  have s_ctWWrite:E.spec 23=(rY).spec:=by rw[← hE];rfl
  have s_ctItoa:E.spec 24=(Eo).spec:=by rw[← hE];rfl
  have s_ctBLen:E.spec 26=(Si).spec:=by rw[← hE];rfl
  have s_ctWString:E.spec 27=(BB).spec:=by rw[← hE];rfl
  have ep:E.post=(fun v k=>∃ k',dm k' k∧φ v k'):=by rw[← hE]
  have ei:E.inv=(Yp h q x):=by rw[← hE]
  have em:E.meas=(Vx x):=by rw[← hE]
  clear hE
  unfold H9
  rw[ak,if_pos (by rfl),s_ctMayS]
  refine⟨q,x,rfl,R,L,T,hM,?_⟩
  cases hmay:qY gU x with
  | false=>
    refine⟨fun h=>(by cases h),(ah _ _).2 ⟨⟨[],[false],[],[],[],[]⟩,rfl,af,rfl,?_⟩⟩
    rw[ae,ai,if_pos (by simp[go_sem])]
    rw[ae,aj,ep]
    exact⟨h,fun _ _ h=>h,hno hmay⟩
  | true=>
  have hyes:=hyes hmay
  have hlong:=hlong hmay
  have MS:=(zh Ff N).1 hmay
  have hlen:=qo x
  have h9:∀ n,(dG ((hd9 x).take n)).length≤10000000000:=fun n=>by have:=jl (hd9 x) n;omega
  refine⟨fun h=>(by cases h),(ah _ _).2 ⟨⟨[],[true],[],[],[],[]⟩,rfl,af,rfl,?_⟩⟩
  rw[ae,ai,if_neg (by simp[go_sem])]
  rw[ae,jZ]
  intro b hb
  have hb:h b=none:=hb
  have W0:Wr h (h.set b ⟨JR b false iP,BT⟩) b (dG ((hd9 x).take 0)):=⟨⟨false,iP,⟨ax _ _ _,fF _ _ _,rfl,fun z hz=>(by cases hz),fun _=>rfl,fun hz=>absurd rfl hz⟩,fun z hz=>(by cases hz)⟩,dF hb _,hb⟩
  rw[ae,ak,if_pos (by rfl),s_ctOne29]
  refine⟨h,b,_,iH,x.fuel,rfl,W0,dX MS.fuel,hP,by decide,by have:=h9 0;omega,fun k1 W1=>?_⟩
  have W1:Wr h k1 b (dG ((hd9 x).take 1)):=by
   rw[show (hd9 x).take 1=(hd9 x).take 0++[row iH [x.fuel]] from rfl,dS];exact W1
  refine⟨fun h=>(by cases h),(ah _ _).2 ⟨⟨[],[],[],[],[],[]⟩,rfl,af,rfl,?_⟩⟩
  rw[ae,ak,if_pos (by rfl),s_ctOne29]
  refine⟨h,b,_,iI,x.heap,rfl,W1,dX MS.heap,hP,by decide,by have:=h9 1;omega,fun k2 W2=>?_⟩
  have W2:Wr h k2 b (dG ((hd9 x).take 2)):=by
   rw[show (hd9 x).take 2=(hd9 x).take 1++[row iI [x.heap]] from rfl,dS];exact W2
  refine⟨fun h=>(by cases h),(ah _ _).2 ⟨⟨[],[],[],[],[],[]⟩,rfl,af,rfl,?_⟩⟩
  rw[ae,ak,if_pos (by rfl),s_ctOne29]
  refine⟨h,b,_,fM,x.stack,rfl,W2,dX MS.stack,hP,by decide,by have:=h9 2;omega,fun k3 W3=>?_⟩
  have W3:Wr h k3 b (dG ((hd9 x).take 3)):=by
   rw[show (hd9 x).take 3=(hd9 x).take 2++[row fM [x.stack]] from rfl,dS];exact W3
  refine⟨fun h=>(by cases h),(ah _ _).2 ⟨⟨[],[],[],[],[],[]⟩,rfl,af,rfl,?_⟩⟩
  rw[ae,ak,if_pos (by rfl),s_ctRow]
  refine⟨qx,q.i,x.ins,rfl,R.i.le W3.le,L.i,by decide,MS.ins,?_⟩
  refine⟨fun h=>(by cases h),(ah _ _).2 ⟨⟨[],[],[(row qx x.ins++[10])],[],[],[]⟩,rfl,af,rfl,?_⟩⟩
  rw[ae,ak,if_pos (by rfl),s_ctWWrite]
  have hr3:=bI x.ins qx
  have hq3:=L.i
  have hw3:qx.length≤100:=by decide
  refine⟨h,b,_,row qx x.ins++[10],rfl,W3,by have:=h9 3;simp;omega,fun k4 W4=>?_⟩
  have W4:Wr h k4 b (dG ((hd9 x).take 4)):=by
   rw[show (hd9 x).take 4=(hd9 x).take 3++[row qx x.ins] from rfl,dS];exact W4
  refine⟨fun h=>(by cases h),(ah _ _).2 ⟨⟨[((row qx x.ins++[10]).length:Nat)],[],[],[.nilIface],[],[]⟩,rfl,fun u hu=>(by simp at hu;subst hu;rfl),rfl,?_⟩⟩
  rw[ae,ak,if_pos (by rfl),s_ctRow]
  refine⟨eG,q.d,x.draws,rfl,R.d.le W4.le,L.d,by decide,MS.draws,?_⟩
  refine⟨fun h=>(by cases h),(ah _ _).2 ⟨⟨[],[],[(row eG x.draws++[10])],[],[],[]⟩,rfl,af,rfl,?_⟩⟩
  rw[ae,ak,if_pos (by rfl),s_ctWWrite]
  have hr4:=bI x.draws eG
  have hq4:=L.d
  have hw4:eG.length≤100:=by decide
  refine⟨h,b,_,row eG x.draws++[10],rfl,W4,by have:=h9 4;simp;omega,fun k5 W5=>?_⟩
  have W5:Wr h k5 b (dG ((hd9 x).take 5)):=by
   rw[show (hd9 x).take 5=(hd9 x).take 4++[row eG x.draws] from rfl,dS];exact W5
  refine⟨fun h=>(by cases h),(ah _ _).2 ⟨⟨[((row eG x.draws++[10]).length:Nat)],[],[],[.nilIface],[],[]⟩,rfl,fun u hu=>(by simp at hu;subst hu;rfl),rfl,?_⟩⟩
  rw[ae,ak,if_pos (by rfl),s_ctOne29]
  refine⟨h,b,_,fK,x.every,rfl,W5,dX MS.every,hP,by decide,by have:=h9 5;omega,fun k6 W6=>?_⟩
  have W6:Wr h k6 b (dG ((hd9 x).take 6)):=by
   rw[show (hd9 x).take 6=(hd9 x).take 5++[row fK [x.every]] from rfl,dS];exact W6
  refine⟨fun h=>(by cases h),(ah _ _).2 ⟨⟨[],[],[],[],[],[]⟩,rfl,af,rfl,?_⟩⟩
  rw[ae,ak,if_pos (by rfl),s_ctOne29]
  refine⟨h,b,_,iJ,x.keep,rfl,W6,dX MS.keep,hP,by decide,by have:=h9 6;omega,fun k7 W7=>?_⟩
  have W7:Wr h k7 b (dG ((hd9 x).take 7)):=by
   rw[show (hd9 x).take 7=(hd9 x).take 6++[row iJ [x.keep]] from rfl,dS];exact W7
  refine⟨fun h=>(by cases h),(ah _ _).2 ⟨⟨[],[],[],[],[],[]⟩,rfl,af,rfl,?_⟩⟩
  rw[ae,ak,if_pos (by rfl),s_ctOne29]
  refine⟨h,b,_,lG,x.hot,rfl,W7,dX MS.hot,hP,by decide,by have:=h9 7;omega,fun k8 W8=>?_⟩
  have W8:Wr h k8 b (dG ((hd9 x).take 8)):=by
   rw[show (hd9 x).take 8=(hd9 x).take 7++[row lG [x.hot]] from rfl,dS];exact W8
  refine⟨fun h=>(by cases h),(ah _ _).2 ⟨⟨[],[],[],[],[],[]⟩,rfl,af,rfl,?_⟩⟩
  show Then E _ (⟨[x.fuel,x.heap,x.stack,x.every,x.keep,x.hot,((row qx x.ins++[10]).length:Nat),((row eG x.draws++[10]).length:Nat)],[true],[x.src,row qx x.ins++[10],row eG x.draws++[10]],[.nilIface,.nilIface],[q.i,q.d,q.e,q.a,q.n,q.l],[some (b,0)],k8,dY⟩:Ctx)
  rw[ae]
  refine aQ ?_ ?_
  · rw[ei]
    exact⟨k8,b,_,_,_,_,.nilIface,.nilIface,true,rfl,rfl,0,iP,rfl,W8,fF _ _ _,rfl,fun z hz=>(by cases hz),Nat.zero_le _⟩
  clear W0 W1 W2 W3 W4 W5 W6 W7 W8
  rw[ei,em]
  rintro i' bb ss vv ll pp hh M ⟨hh',b,w6,w7,r1,r2,v0,v1,b0,hv0,hv1,j,cur,hC,W,O,hcn,hcf,hj⟩ hM'
  cases hC
  have hM0:M 0=x.evict.length - j:=hM'
  have ne:=R.e.cnt
  have hLe:=L.e
  by_cases hlt:j<x.evict.length
  · have hx:x.evict[j]? = some x.evict[j]:=List.getElem?_eq_getElem hlt
    have e1:=R.e.nns (by omega)
    rw[ai,if_pos (by simp[go_sem,ne];omega)]
    rw[ae,ag];refine⟨by simp[go_sem,ne,e1,hlt],?_⟩
    rw[ae,au,if_pos (by rfl)]
    refine (ah _ _).2 ⟨⟨[x.evict[j]],[],[],[],[],[]⟩,rfl,af,by simpa[go_sem] using (R.e.le W.le).int hx,?_⟩
    rw[ae,di]
    intro b2 hb2
    have hb2:hh b2=none:=hb2
    rw[ae]
    refine dV (h:=hh) (sl:=cur) (xs:=dQ (x.evict.take j)) (cs:=dQ [x.evict[j]]) (b1:=b2) rfl rfl O rfl hb2 rfl (kK _) (by omega) (by decide) fun s2 k2 o3 n3 f3 g3=>?_
    obtain⟨_,hfr2⟩:=eQ W.le hcf f3 g3
    rw[ae,ag];refine⟨by simp[go_sem];omega,?_⟩
    rw[ae,says_again,ei,em]
    have ht:x.evict.take (j+1)=x.evict.take j++[x.evict[j]]:=by simp
    refine⟨⟨k2,b,w6,w7,r1,r2,v0,v1,b0,hv0,hv1,j+1,s2,rfl,W.app O (by decide) (by decide) hcf g3,by rw[ht,lg];exact o3,by omega,hfr2,by omega⟩,?_⟩
    show x.evict.length - (((j:Int)+1).toNat)<M 0
    omega
  have hie:j=x.evict.length:=by omega
  subst hie
  rw[List.take_length] at O
  rw[ai,if_neg (by simp[go_sem,ne])]
  rw[ae,ak,if_pos (by rfl),s_ctRow]
  refine⟨dP,cur,x.evict,rfl,Row.eu O hcn,L.e,by decide,MS.evict,?_⟩
  refine⟨fun h=>(by cases h),(ah _ _).2 ⟨⟨[],[],[(row dP x.evict++[10])],[],[],[]⟩,rfl,af,rfl,?_⟩⟩
  rw[ae,ak,if_pos (by rfl),s_ctWWrite]
  have hrE:=bI x.evict dP
  have hwE:dP.length≤100:=by decide
  refine⟨h,b,_,row dP x.evict++[10],rfl,W,by have:=h9 8;simp;omega,fun k9 W9=>?_⟩
  have W9:Wr h k9 b (dG (hd9 x)):=by
   rw[show hd9 x=(hd9 x).take 8++[row dP x.evict] from rfl,dS];exact W9
  refine⟨fun h=>(by cases h),(ah _ _).2 ⟨⟨[((row dP x.evict++[10]).length:Nat)],[],[],[.nilIface],[],[]⟩,rfl,fun u hu=>(by simp at hu;subst hu;rfl),rfl,?_⟩⟩
  rw[ae]
  refine aQ ?_ ?_
  · rw[ei]
    refine⟨k9,b,w6,w7,r1,r2,v0,v1,b0,hv0,hv1,?_⟩
    show ∃ (j w9:Int) (i:Nat) (r3:List UInt8) (v2:Value) (cur:bg),_
    exact⟨_,_,0,_,.nilIface,cur,rfl,by simpa[bP] using W9,Nat.zero_le _,rfl⟩
  clear W W9 O hcf hM0 hM' hcn
  obtain⟨hal,hag⟩:=ry MS.acts
  rw[ei,em]
  rintro i' bb ss vv ll pp hh M ⟨hh',b,w6,w7,r1,r2,v0,v1,b0,hv0,hv1,hI⟩ hM'
  have hI:∃ (j w9:Int) (i:Nat) (r3:List UInt8) (v2:Value) (cur:bg),_:=hI
  obtain⟨j,w9,i,r3,v2,cur,hC,W,hi,hv2⟩:=hI
  cases hC
  have hM1:M 1=x.acts.length - i:=hM'
  have na:=R.a.cnt
  have nn:=R.n.cnt
  have hLa:=L.a
  by_cases hlt:i<x.acts.length
  · have hx:x.acts[i]? = some x.acts[i]:=List.getElem?_eq_getElem hlt
    have hxn:x.names[i]? = some (x.names[i]'(by omega)):=List.getElem?_eq_getElem _
    have hok:=hag i _ _ hx hxn
    have e1:=R.a.nns (by omega)
    have e2:=R.n.nns (by omega)
    have hat:=Ec hx hxn
    generalize hnm:x.names[i]'(by omega)=nme at *
    have hsum:(dG (hd9 x++bP (x.acts.take (i+1)) (x.names.take (i+1)))).length=(dG (hd9 x++bP (x.acts.take i) (x.names.take i))).length+((gY x.acts[i] nme).length+1):=by
     rw[hat,← List.append_assoc,dS];simp
    have hbd:(dG (hd9 x++bP (x.acts.take (i+1)) (x.names.take (i+1)))).length≤10000000000:=by
     have:=lW x.acts x.names (i+1)
     rw[dB];omega
    have hjoin:∀ s:List UInt8,s=gY x.acts[i] nme++[10]→dG (hd9 x++bP (x.acts.take i) (x.names.take i))++s=dG (hd9 x++bP (x.acts.take (i+1)) (x.names.take (i+1))):=by
     rintro _ rfl
     conv=>rhs;rw[hat,← List.append_assoc,dS]
    have ht64:=dX hok.1
    have htl:=jE x.acts[i].1
    rw[ai,if_pos (by simp[go_sem,na];omega)]
    rw[ae,ag];refine⟨by simp[go_sem,na,e1,hlt],?_⟩
    rw[ae,au,if_pos (by rfl)]
    refine (ah _ _).2 ⟨⟨[x.acts[i].1,x.acts[i].2.2,x.acts[i].2.1],[],[],[],[],[]⟩,rfl,af,by simpa[go_sem] using (R.a.le W.le).act hx,?_⟩
    rw[ae,ak,if_pos (by rfl),s_ctItoa]
    refine⟨x.acts[i].1,rfl,ht64.1,ht64.2,hP.le W.le,?_⟩
    refine⟨fun h=>(by cases h),(ah _ _).2 ⟨⟨[],[],[(txt x.acts[i].1)],[],[],[]⟩,rfl,af,rfl,?_⟩⟩
    by_cases c1:x.acts[i].2.2=1
    · have hal2:gY x.acts[i] nme=Pi++32::(txt x.acts[i].1++32::nme):=by unfold gY;simp[c1]
      have hnl:nme.length≤10000000000:=by rw[hal2] at hsum;simp at hsum;omega
      rw[ae,ai,if_pos (by simp[go_sem];exact c1)]
      rw[ae,ag];refine⟨by simp[go_sem];omega,?_⟩
      rw[ae,ag];refine⟨by simp[go_sem];omega,?_⟩
      rw[ae,ag];refine⟨by simp[go_sem,nn,e2];omega,?_⟩
      rw[ae,au,if_pos (by rfl)]
      refine (ah _ _).2 ⟨⟨[],[],[nme],[],[],[]⟩,rfl,af,by simpa[go_sem] using (R.n.le W.le).str hxn,?_⟩
      rw[ae,ag];refine⟨by simp[go_sem];omega,?_⟩
      rw[ae,ag];refine⟨by simp[go_sem];omega,?_⟩
      have hse:[117,112,32]++txt x.acts[i].1++[32]++nme++[10]=gY x.acts[i] nme++[10]:=by rw[hal2];simp[Pi]
      rw[ae,ak,if_pos (by rfl),s_ctWWrite]
      refine⟨h,b,_,[117,112,32]++txt x.acts[i].1++[32]++nme++[10],rfl,W,by rw[hse];simp;omega,fun k2 W2=>?_⟩
      rw[hjoin _ hse] at W2
      refine⟨fun h=>(by cases h),(ah _ _).2 ⟨⟨[(([117,112,32]++txt x.acts[i].1++[32]++nme++[10]).length:Nat)],[],[],[.nilIface],[],[]⟩,rfl,fun u hu=>(by simp at hu;subst hu;rfl),rfl,?_⟩⟩
      rw[ae,ag];refine⟨by simp[go_sem];omega,?_⟩
      rw[ae,says_again,ei,em]
      refine⟨⟨k2,b,w6,w7,r1,r2,v0,v1,b0,hv0,hv1,?_⟩,?_⟩
      · show ∃ (j w9:Int) (i:Nat) (r3:List UInt8) (v2:Value) (cur:bg),_
        exact⟨j,w9,i+1,r3,v2,cur,rfl,W2,by omega,hv2⟩
      · show x.acts.length - (((i:Int)+1).toNat)<M 1
        omega
    rw[ae,ai,if_neg (by simp[go_sem];exact c1)]
    by_cases c2:x.acts[i].2.2=2
    · have hal2:gY x.acts[i] nme=lC++32::(txt x.acts[i].1++32::nme):=by unfold gY;simp[c2]
      have hnl:nme.length≤10000000000:=by rw[hal2] at hsum;simp at hsum;omega
      rw[ae,ai,if_pos (by simp[go_sem];exact c2)]
      rw[ae,ag];refine⟨by simp[go_sem];omega,?_⟩
      rw[ae,ag];refine⟨by simp[go_sem];omega,?_⟩
      rw[ae,ag];refine⟨by simp[go_sem,nn,e2];omega,?_⟩
      rw[ae,au,if_pos (by rfl)]
      refine (ah _ _).2 ⟨⟨[],[],[nme],[],[],[]⟩,rfl,af,by simpa[go_sem] using (R.n.le W.le).str hxn,?_⟩
      rw[ae,ag];refine⟨by simp[go_sem];omega,?_⟩
      rw[ae,ag];refine⟨by simp[go_sem];omega,?_⟩
      have hse:[100,111,119,110,32]++txt x.acts[i].1++[32]++nme++[10]=gY x.acts[i] nme++[10]:=by rw[hal2];simp[lC]
      rw[ae,ak,if_pos (by rfl),s_ctWWrite]
      refine⟨h,b,_,[100,111,119,110,32]++txt x.acts[i].1++[32]++nme++[10],rfl,W,by rw[hse];simp;omega,fun k2 W2=>?_⟩
      rw[hjoin _ hse] at W2
      refine⟨fun h=>(by cases h),(ah _ _).2 ⟨⟨[(([100,111,119,110,32]++txt x.acts[i].1++[32]++nme++[10]).length:Nat)],[],[],[.nilIface],[],[]⟩,rfl,fun u hu=>(by simp at hu;subst hu;rfl),rfl,?_⟩⟩
      rw[ae,ag];refine⟨by simp[go_sem];omega,?_⟩
      rw[ae,says_again,ei,em]
      refine⟨⟨k2,b,w6,w7,r1,r2,v0,v1,b0,hv0,hv1,?_⟩,?_⟩
      · show ∃ (j w9:Int) (i:Nat) (r3:List UInt8) (v2:Value) (cur:bg),_
        exact⟨j,w9,i+1,r3,v2,cur,rfl,W2,by omega,hv2⟩
      · show x.acts.length - (((i:Int)+1).toNat)<M 1
        omega
    rw[ae,ai,if_neg (by simp[go_sem];exact c2)]
    have hal2:gY x.acts[i] nme=oh++32::txt x.acts[i].1:=by unfold gY;simp[c1,c2,row]
    rw[ae,ag];refine⟨by simp[go_sem];omega,?_⟩
    rw[ae,ag];refine⟨by simp[go_sem];omega,?_⟩
    have hse:[98,97,115,101,32]++txt x.acts[i].1++[10]=gY x.acts[i] nme++[10]:=by rw[hal2];simp[oh]
    rw[ae,ak,if_pos (by rfl),s_ctWWrite]
    refine⟨h,b,_,[98,97,115,101,32]++txt x.acts[i].1++[10],rfl,W,by rw[hse];simp;omega,fun k2 W2=>?_⟩
    rw[hjoin _ hse] at W2
    refine⟨fun h=>(by cases h),(ah _ _).2 ⟨⟨[(([98,97,115,101,32]++txt x.acts[i].1++[10]).length:Nat)],[],[],[.nilIface],[],[]⟩,rfl,fun u hu=>(by simp at hu;subst hu;rfl),rfl,?_⟩⟩
    rw[ae,ag];refine⟨by simp[go_sem];omega,?_⟩
    rw[ae,says_again,ei,em]
    refine⟨⟨k2,b,w6,w7,r1,r2,v0,v1,b0,hv0,hv1,?_⟩,?_⟩
    · show ∃ (j w9:Int) (i:Nat) (r3:List UInt8) (v2:Value) (cur:bg),_
      exact⟨j,w9,i+1,r3,v2,cur,rfl,W2,by omega,hv2⟩
    · show x.acts.length - (((i:Int)+1).toNat)<M 1
      omega
  have hie:i=x.acts.length:=by omega
  subst hie
  rw[List.take_length,show x.names.take x.acts.length=x.names by rw[hal,List.take_length]] at W
  have hTs:=T.src
  rw[ai,if_neg (by simp[go_sem,na])]
  rw[ae,ag];refine⟨by simp[go_sem];omega,?_⟩
  rw[ae,ag];refine⟨by simp[go_sem];omega,?_⟩
  have hse:[112,114,111,103,114,97,109,10]++x.src++[101,110,100,10]=dE++[10]++x.src++(fD++[10]):=by simp[dE,fD]
  rw[ae,ak,if_pos (by rfl),s_ctWWrite]
  refine⟨h,b,_,[112,114,111,103,114,97,109,10]++x.src++[101,110,100,10],rfl,W,by rw[dB];simp;omega,fun k2 W2=>?_⟩
  rw[hse] at W2
  refine⟨fun h=>(by cases h),(ah _ _).2 ⟨⟨[(([112,114,111,103,114,97,109,10]++x.src++[101,110,100,10]).length:Nat)],[],[],[.nilIface],[],[]⟩,rfl,fun u hu=>(by simp at hu;subst hu;rfl),rfl,?_⟩⟩
  rw[ae]
  refine aQ ?_ ?_
  · rw[ei]
    refine⟨k2,b,w6,w7,r1,r2,v0,v1,b0,hv0,hv1,?_⟩
    show ∃ (j w9 w10 w11:Int) (i:Nat) (r3:List UInt8) (v2 v3:Value) (cur:bg),_
    exact⟨j,w9,_,_,0,r3,v2,.nilIface,cur,rfl,by simpa[dG] using W2,Nat.zero_le _⟩
  clear W W2 hM1 hM'
  rw[ei,em]
  rintro i' bb ss vv ll pp hh M ⟨hh',b,w6,w7,r1,r2,v0,v1,b0,hv0,hv1,hI⟩ hM'
  have hI:∃ (j w9 w10 w11:Int) (i:Nat) (r3:List UInt8) (v2 v3:Value) (cur:bg),_:=hI
  obtain⟨j,w9,w10,w11,i,r3,v2,v3,cur,hC,W,hi⟩:=hI
  cases hC
  have hM1:M 2=x.lines.length - i:=hM'
  have nl:=R.l.cnt
  have hLl:=L.l
  by_cases hlt:i<x.lines.length
  · have hx:x.lines[i]? = some x.lines[i]:=List.getElem?_eq_getElem hlt
    have hxl:=T.lines x.lines[i] (List.getElem_mem hlt)
    have e1:=R.l.nns (by omega)
    have hjl:=jl x.lines i
    rw[ai,if_pos (by simp[go_sem,nl];omega)]
    rw[ae,ag];refine⟨by simp[go_sem,nl,e1,hlt],?_⟩
    rw[ae,au,if_pos (by rfl)]
    refine (ah _ _).2 ⟨⟨[],[],[x.lines[i]],[],[],[]⟩,rfl,af,by simpa[go_sem] using (R.l.le W.le).str hx,?_⟩
    rw[ae,ag];refine⟨by simp[go_sem];omega,?_⟩
    rw[ae,ak,if_pos (by rfl),s_ctWWrite]
    refine⟨h,b,_,x.lines[i]++[10],rfl,W,by rw[List.length_append,List.length_append,dB];simp[dE,fD];omega,fun k3 W3=>?_⟩
    have W3:Wr h k3 b (dG (hd9 x++bP x.acts x.names)++(dE++[10]++x.src++(fD++[10]))++dG (x.lines.take (i+1))):=by
     have e:x.lines.take (i+1)=x.lines.take i++[x.lines[i]]:=by simp
     rw[e,dS,← List.append_assoc];exact W3
    refine⟨fun h=>(by cases h),(ah _ _).2 ⟨⟨[((x.lines[i]++[10]).length:Nat)],[],[],[.nilIface],[],[]⟩,rfl,fun u hu=>(by simp at hu;subst hu;rfl),rfl,?_⟩⟩
    rw[ae,ag];refine⟨by simp[go_sem];omega,?_⟩
    rw[ae,says_again,ei,em]
    refine⟨⟨k3,b,w6,w7,r1,r2,v0,v1,b0,hv0,hv1,?_⟩,?_⟩
    · show ∃ (j w9 w10 w11:Int) (i:Nat) (r3:List UInt8) (v2 v3:Value) (cur:bg),_
      exact⟨j,w9,w10,w11,i+1,r3,v2,v3,cur,rfl,W3,by omega⟩
    · show x.lines.length - (((i:Int)+1).toNat)<M 2
      omega
  have hie:i=x.lines.length:=by omega
  subst hie
  rw[List.take_length,← Aw] at W
  rw[ai,if_neg (by simp[go_sem,nl])]
  rw[ae,ak,if_pos (by rfl),s_ctBLen]
  refine⟨h,b,_,rfl,W,?_⟩
  refine⟨fun h=>(by cases h),(ah _ _).2 ⟨⟨[((textS x).length:Nat)],[],[],[],[],[]⟩,rfl,af,rfl,?_⟩⟩
  by_cases hbig:131072<(textS x).length
  · rw[ae,ai,if_pos (by simp[go_sem];omega)]
    rw[ae,aj,ep]
    exact⟨h,W.le,hlong hbig⟩
  · rw[ae,ai,if_neg (by simp[go_sem];omega)]
    rw[ae,ak,if_pos (by rfl),s_ctWString]
    refine⟨h,b,_,rfl,W,fun k hk=>?_⟩
    refine⟨fun h=>(by cases h),(ah _ _).2 ⟨⟨[],[],[(textS x)],[],[],[]⟩,rfl,af,rfl,?_⟩⟩
    rw[ae,aj,ep]
    exact⟨h,hk,hyes hbig⟩
end Go.Proofs.YtgpanefhaiohnaaGreatDoor
namespace Go.Proofs.YtgpanefhaiohnaaGreatDoor
open Go.RowKit
theorem Dt:∀ n,gU n=true→∀ c∈n,c≠32∧c≠10:=by
 intro n h c hc
 cases n with
 | nil=>cases hc
 | cons a l=>
   have h':(uC a.toNat&&(!iF (a::l)&&(a::l).all fun c=>inB c.toNat))=true:=h
   simp only[Bool.and_eq_true] at h'
   have h3:=List.all_eq_true.1 h'.2.2 c hc
   rw[EL] at h3
   refine⟨?_,?_⟩
   · rintro rfl;revert h3;decide
   · rintro rfl;revert h3;decide
theorem CG {nm:List UInt8→Bool}:∀ {L:List (List UInt8)} {x:gu} {i n:Nat} {c:Int},eY nm x i L=.error (n,c)→c≠0
 | [],x,i,n,c,h=>by rw[eY] at h;cases h;decide
 | l::r,x,i,n,c,h=>by
   rw[eY] at h
   split at h
   · cases h
   · split at h
     · cases h;decide
     · exact CG h
theorem Y5 {nm:List UInt8→Bool} {s:List UInt8} {n:Nat} {c:Int} (h:oq nm s=.error (n,c)):c≠0:=by
 unfold oq at h
 split at h
 · cases h;decide
 · split at h
   · rename_i e he
     cases h
     exact CG he
   · split at h
     · cases h;decide
     · split at h
       · cases h;decide
       · cases h
theorem tq:∀ L:List (List UInt8),L.length≤(dG L).length∧∀ x∈L,x.length≤(dG L).length
 | []=>⟨Nat.zero_le _,fun x hx=>(by cases hx)⟩
 | a::L=>by
   have ih:=tq L
   rw[bH]
   refine⟨by rw[List.length_cons];omega,fun x hx=>?_⟩
   rcases List.mem_cons.1 hx with rfl | hx
   · omega
   · have:=ih.2 x hx;omega
theorem FD:∀ (l:List Int) (w:List UInt8),l.length≤(row w l).length
 | [],w=>Nat.zero_le _
 | n::l,w=>by
   rw[zZ]
   have h1:=FD l (txt n)
   simp;omega
theorem F9:∀ {l:List (Int×Int×Int)} {k:List (List UInt8)},l.length=k.length→(bP l k).length=l.length
 | [],[],_=>rfl
 | [],_::_,h=>by simp at h
 | _::_,[],h=>by simp at h
 | a::l,n::k,h=>by
   rw[bP,List.length_cons,List.length_cons,F9 (by simpa using h)]
theorem Qo {x:gu} (M:Pn gU x) {N:Nat} (hl:(textS x).length≤N) (hN:N≤1000000):XO x∧Zu x∧Zl x:=by
 have h1:=qo x
 obtain⟨h2,h3⟩:=tq (hd9 x)
 obtain⟨h4,_⟩:=tq (bP x.acts x.names)
 obtain⟨h5,h6⟩:=tq x.lines
 obtain⟨h7,_⟩:=ry M.acts
 rw[F9 h7] at h4
 have i1:=h3 (row qx x.ins) (by simp[hd9])
 have i2:=h3 (row eG x.draws) (by simp[hd9])
 have i3:=h3 (row dP x.evict) (by simp[hd9])
 have j1:=FD x.ins qx
 have j2:=FD x.draws eG
 have j3:=FD x.evict dP
 exact⟨⟨by omega,by omega,by omega,by omega,by omega,by omega⟩,⟨by omega,fun l hl=>by have:=h6 l hl;omega⟩,⟨M.ins,M.draws,M.evict⟩⟩
end Go.Proofs.YtgpanefhaiohnaaGreatDoor
namespace Go.Proofs.YtgpanefhaiohnaaGreatDoor
open Go.RowKit
attribute [local go_sem] aZ aY ag ai ak aN au aC aj says_again BE.den IE.den SE.den LE.den AE.den CE.den PE.den VE.den KV.val dw.den dw.cnt iM dU iY allL Ctx.push Ctx.heap Ctx.cut Ctx.bare Ctx.mark Inc.blank List.getD_cons_zero List.getD_cons_succ List.cons_append List.nil_append List.append_nil List.map_cons List.map_nil List.replicate_zero List.replicate_succ aB bQ bu bG bn bY cO aU aT aV bF bD aF aO aH aA ax aS aI bW af and_assoc
def Ce:Fm:=(.ite (.lt (.c 131072) (.len (.x 0)))
 (.ret (.tup [(.agg [(.sl .nil),(.sl .nil),(.i .i64 (.c 0)),(.i .i64 (.c 0)),(.i .i64 (.c 0)),(.i .i64 (.c 0)),(.i .i64 (.c 0)),(.i .i64 (.c 0)),(.sl .nil),(.sl .nil),(.sl .nil),(.s (.c [])),(.sl .nil)]),(.I (.c 0)),(.I (.c 3))]))
 (.new [(.sl .nil),(.sl .nil),(.i .i64 (.c 0)),(.i .i64 (.c 0)),(.i .i64 (.c 0)),(.i .i64 (.c 0)),(.i .i64 (.c 0)),(.i .i64 (.c 0)),(.sl .nil),(.sl .nil),(.sl .nil),(.s (.c [])),(.sl .nil)] 32
 (.store (.pt 0 0) [(.sl .nil),(.sl .nil),(.i .i64 (.c 1000)),(.i .i64 (.c 1000)),(.i .i64 (.c 100)),(.i .i64 (.c 100)),(.i .i64 (.c 8)),(.i .i64 (.c 0)),(.sl .nil),(.sl .nil),(.sl .nil),(.s (.c [])),(.sl .nil)]
 (.C 14 [.S 0] (.p (.L 0)) ⟨0,0,0,0,1,0⟩
 (.C 15 [.L 0,.W [112,114,111,103,114,97,109]] (.p (.J 0)) ⟨1,0,0,0,0,0⟩
 (.loop 0 ⟨[(.c 0),(.c 0),(.c 0),(.c 0),(.c 0),(.c 0),(.c 0),(.c 0),(.c 0)],[],[(.c [])],[],[.nil,.nil,.nil,.nil,.nil,.nil],[]⟩
 (.ite (.lt (.x 3) (.cnt (.x 0)))
 (.N (.X (.x 3) (.x 0))
 (.O (.el (.x 0) (.x 3) 1 0) 1 [(.s (.x 2))] ⟨0,0,1,0,0,0⟩
 (.ite (.eqI (.x 3) (.x 0))
 (.ite (.le (.c 0) (.x 0))
 (.N (.and (.le (.cnt (.x 0)) (.cap (.x 0))) (.and (.le (.c 0) (.x 0)) (.le (.x 0) (.cnt (.x 0)))))
 (.C 15 [(.one (.sl (.sub (.x 0) (.x 0) (.cnt (.x 0)) 1))),.W [101,110,100]] (.p (.J 10)) ⟨1,0,0,0,0,0⟩
 (.ite (.lt (.x 10) (.c 0))
 (.ret (.tup [(.agg [(.sl .nil),(.sl .nil),(.i .i64 (.c 0)),(.i .i64 (.c 0)),(.i .i64 (.c 0)),(.i .i64 (.c 0)),(.i .i64 (.c 0)),(.i .i64 (.c 0)),(.sl .nil),(.sl .nil),(.sl .nil),(.s (.c [])),(.sl .nil)]),(.I (.c 0)),(.I (.c 15))]))
 (.N (.R (.add (.x 10) (.x 0)))
 (.N (.R (.add (.x 0) (.c 1)))
 (.N (.and (.and (.le (.c 0) (.add (.x 10) (.x 0))) (.le (.add (.x 10) (.x 0)) (.cap (.x 0)))) (.and (.le (.c 0) (.add (.x 0) (.c 1))) (.le (.add (.x 0) (.c 1)) (.add (.x 10) (.x 0)))))
 (.loop 1 ⟨[(.c 0)],[],[],[],[],[]⟩
 (.ite (.lt (.x 11) (.cnt (.sub (.x 0) (.add (.x 0) (.c 1)) (.add (.x 10) (.x 0)) 1)))
 (.N (.and (.and (.le (.c 0) (.x 11)) (.lt (.x 11) (.cnt (.sub (.x 0) (.add (.x 0) (.c 1)) (.add (.x 10) (.x 0)) 1)))) (.nns (.sub (.x 0) (.add (.x 0) (.c 1)) (.add (.x 10) (.x 0)) 1)))
 (.O (.el (.sub (.x 0) (.add (.x 0) (.c 1)) (.add (.x 10) (.x 0)) 1) (.x 11) 1 0) 1 [(.s (.x 3))] ⟨0,0,1,0,0,0⟩
 (.Z 0
 (.O (.pt 0 11) 1 [(.s (.x 4))] ⟨0,0,1,0,0,0⟩
 (.N (.le (.add (.len (.x 3)) (.len (.c [10]))) (.c 9223372036854775807))
 (.N (.le (.add (.len (.x 4)) (.len (.app (.x 3) (.c [10])))) (.c 9223372036854775807))
 (.Z 0
 (.store (.pt 0 11) [(.s (.app (.x 4) (.app (.x 3) (.c [10]))))]
 (.N (.R (.add (.x 11) (.c 1)))
 (.again 1 ⟨11,0,3,0,7,1⟩ ⟨12,0,3,0,7,1⟩ ⟨[(.add (.x 11) (.c 1))],[],[],[],[],[]⟩))))))))))
 (.O (.pt 0 12) 1 [(.sl (.x 7))] ⟨0,0,0,0,1,0⟩
 (.Z 0
 (.N (.R (.add (.add (.x 10) (.x 0)) (.c 1)))
 (.N (.and (.le (.cnt (.x 0)) (.cap (.x 0))) (.and (.le (.c 0) (.add (.add (.x 10) (.x 0)) (.c 1))) (.le (.add (.add (.x 10) (.x 0)) (.c 1)) (.cnt (.x 0)))))
 (.app (.x 7) (.sub (.x 0) (.add (.add (.x 10) (.x 0)) (.c 1)) (.cnt (.x 0)) 1) 1 16 9
 (.Z 0
 (.store (.pt 0 12) [(.sl (.x 8))]
 (.Z 0
 (.O (.pt 0 12) 1 [(.sl (.x 9))] ⟨0,0,0,0,1,0⟩
 (.ite (.lt (.c 1000) (.cnt (.x 9)))
 (.ret (.tup [(.agg [(.sl .nil),(.sl .nil),(.i .i64 (.c 0)),(.i .i64 (.c 0)),(.i .i64 (.c 0)),(.i .i64 (.c 0)),(.i .i64 (.c 0)),(.i .i64 (.c 0)),(.sl .nil),(.sl .nil),(.sl .nil),(.s (.c [])),(.sl .nil)]),(.I (.c 0)),(.I (.c 13))]))
 (.O (.pt 0 0) 13 [(.sl (.x 10)),(.sl (.x 11)),.J 12,.J 13,.J 14,.J 15,.J 16,.J 17,(.sl (.x 12)),(.sl (.x 13)),(.sl (.x 14)),(.s (.x 3)),(.sl (.x 15))] ⟨6,0,1,0,6,0⟩
 (.ret (.tup [(.agg [(.sl (.x 10)),(.sl (.x 11)),.J 12,.J 13,.J 14,.J 15,.J 16,.J 17,(.sl (.x 12)),(.sl (.x 13)),(.sl (.x 14)),(.s (.x 3)),(.sl (.x 15))]),(.I (.c 0)),(.I (.c 0))])))))))))))))))))))))
 (.ite (.lt (.c (-1)) (.c 0))
 (.ret (.tup [(.agg [(.sl .nil),(.sl .nil),(.i .i64 (.c 0)),(.i .i64 (.c 0)),(.i .i64 (.c 0)),(.i .i64 (.c 0)),(.i .i64 (.c 0)),(.i .i64 (.c 0)),(.sl .nil),(.sl .nil),(.sl .nil),(.s (.c [])),(.sl .nil)]),(.I (.c 0)),(.I (.c 15))]))
 (.N (.R (.add (.c (-1)) (.x 0)))
 (.N (.R (.add (.x 0) (.c 1)))
 (.N (.and (.and (.le (.c 0) (.add (.c (-1)) (.x 0))) (.le (.add (.c (-1)) (.x 0)) (.cap (.x 0)))) (.and (.le (.c 0) (.add (.x 0) (.c 1))) (.le (.add (.x 0) (.c 1)) (.add (.c (-1)) (.x 0)))))
 (.loop 1 ⟨[(.c 0)],[],[],[],[],[]⟩
 (.ite (.lt (.x 10) (.cnt (.sub (.x 0) (.add (.x 0) (.c 1)) (.add (.c (-1)) (.x 0)) 1)))
 (.N (.and (.and (.le (.c 0) (.x 10)) (.lt (.x 10) (.cnt (.sub (.x 0) (.add (.x 0) (.c 1)) (.add (.c (-1)) (.x 0)) 1)))) (.nns (.sub (.x 0) (.add (.x 0) (.c 1)) (.add (.c (-1)) (.x 0)) 1)))
 (.O (.el (.sub (.x 0) (.add (.x 0) (.c 1)) (.add (.c (-1)) (.x 0)) 1) (.x 10) 1 0) 1 [(.s (.x 3))] ⟨0,0,1,0,0,0⟩
 (.Z 0
 (.O (.pt 0 11) 1 [(.s (.x 4))] ⟨0,0,1,0,0,0⟩
 (.N (.le (.add (.len (.x 3)) (.len (.c [10]))) (.c 9223372036854775807))
 (.N (.le (.add (.len (.x 4)) (.len (.app (.x 3) (.c [10])))) (.c 9223372036854775807))
 (.Z 0
 (.store (.pt 0 11) [(.s (.app (.x 4) (.app (.x 3) (.c [10]))))]
 (.N (.R (.add (.x 10) (.c 1)))
 (.again 1 ⟨10,0,3,0,7,1⟩ ⟨11,0,3,0,7,1⟩ ⟨[(.add (.x 10) (.c 1))],[],[],[],[],[]⟩))))))))))
 (.O (.pt 0 12) 1 [(.sl (.x 7))] ⟨0,0,0,0,1,0⟩
 (.Z 0
 (.N (.R (.add (.add (.c (-1)) (.x 0)) (.c 1)))
 (.N (.and (.le (.cnt (.x 0)) (.cap (.x 0))) (.and (.le (.c 0) (.add (.add (.c (-1)) (.x 0)) (.c 1))) (.le (.add (.add (.c (-1)) (.x 0)) (.c 1)) (.cnt (.x 0)))))
 (.app (.x 7) (.sub (.x 0) (.add (.add (.c (-1)) (.x 0)) (.c 1)) (.cnt (.x 0)) 1) 1 16 9
 (.Z 0
 (.store (.pt 0 12) [(.sl (.x 8))]
 (.Z 0
 (.O (.pt 0 12) 1 [(.sl (.x 9))] ⟨0,0,0,0,1,0⟩
 (.ite (.lt (.c 1000) (.cnt (.x 9)))
 (.ret (.tup [(.agg [(.sl .nil),(.sl .nil),(.i .i64 (.c 0)),(.i .i64 (.c 0)),(.i .i64 (.c 0)),(.i .i64 (.c 0)),(.i .i64 (.c 0)),(.i .i64 (.c 0)),(.sl .nil),(.sl .nil),(.sl .nil),(.s (.c [])),(.sl .nil)]),(.I (.c 0)),(.I (.c 13))]))
 (.O (.pt 0 0) 13 [(.sl (.x 10)),(.sl (.x 11)),.J 11,.J 12,.J 13,.J 14,.J 15,.J 16,(.sl (.x 12)),(.sl (.x 13)),(.sl (.x 14)),(.s (.x 3)),(.sl (.x 15))] ⟨6,0,1,0,6,0⟩
 (.ret (.tup [(.agg [(.sl (.x 10)),(.sl (.x 11)),.J 11,.J 12,.J 13,.J 14,.J 15,.J 16,(.sl (.x 12)),(.sl (.x 13)),(.sl (.x 14)),(.s (.x 3)),(.sl (.x 15))]),(.I (.c 0)),(.I (.c 0))]))))))))))))))))))))
 (.C 16 [.P 0,.S 2] (.p (.B 0)) ⟨0,1,0,0,0,0⟩
 (.ite (.not (.x 0))
 (.N (.R (.add (.x 3) (.c 1)))
 (.ret (.tup [(.agg [(.sl .nil),(.sl .nil),(.i .i64 (.c 0)),(.i .i64 (.c 0)),(.i .i64 (.c 0)),(.i .i64 (.c 0)),(.i .i64 (.c 0)),(.i .i64 (.c 0)),(.sl .nil),(.sl .nil),(.sl .nil),(.s (.c [])),(.sl .nil)]),(.I (.add (.x 3) (.c 1))),(.I (.c 24))])))
 (.N (.R (.add (.x 3) (.c 1)))
 (.again 0 ⟨1,0,1,0,1,1⟩ ⟨10,0,2,0,7,1⟩ ⟨[(.x 1),(.x 2),(.add (.x 3) (.c 1)),(.x 4),(.x 5),(.x 6),(.x 7),(.x 8),(.x 9)],[],[(.x 1)],[],[(.x 1),(.x 2),(.x 3),(.x 4),(.x 5),(.x 6)],[]⟩)))))))
 (.ite (.le (.c 0) (.x 0))
 (.N (.and (.le (.cnt (.x 0)) (.cap (.x 0))) (.and (.le (.c 0) (.x 0)) (.le (.x 0) (.cnt (.x 0)))))
 (.C 15 [(.one (.sl (.sub (.x 0) (.x 0) (.cnt (.x 0)) 1))),.W [101,110,100]] (.p (.J 10)) ⟨1,0,0,0,0,0⟩
 (.ite (.lt (.x 10) (.c 0))
 (.ret (.tup [(.agg [(.sl .nil),(.sl .nil),(.i .i64 (.c 0)),(.i .i64 (.c 0)),(.i .i64 (.c 0)),(.i .i64 (.c 0)),(.i .i64 (.c 0)),(.i .i64 (.c 0)),(.sl .nil),(.sl .nil),(.sl .nil),(.s (.c [])),(.sl .nil)]),(.I (.c 0)),(.I (.c 15))]))
 (.N (.R (.add (.x 10) (.x 0)))
 (.N (.R (.add (.x 0) (.c 1)))
 (.N (.and (.and (.le (.c 0) (.add (.x 10) (.x 0))) (.le (.add (.x 10) (.x 0)) (.cap (.x 0)))) (.and (.le (.c 0) (.add (.x 0) (.c 1))) (.le (.add (.x 0) (.c 1)) (.add (.x 10) (.x 0)))))
 (.loop 1 ⟨[(.c 0)],[],[],[],[],[]⟩
 (.ite (.lt (.x 11) (.cnt (.sub (.x 0) (.add (.x 0) (.c 1)) (.add (.x 10) (.x 0)) 1)))
 (.N (.and (.and (.le (.c 0) (.x 11)) (.lt (.x 11) (.cnt (.sub (.x 0) (.add (.x 0) (.c 1)) (.add (.x 10) (.x 0)) 1)))) (.nns (.sub (.x 0) (.add (.x 0) (.c 1)) (.add (.x 10) (.x 0)) 1)))
 (.O (.el (.sub (.x 0) (.add (.x 0) (.c 1)) (.add (.x 10) (.x 0)) 1) (.x 11) 1 0) 1 [(.s (.x 2))] ⟨0,0,1,0,0,0⟩
 (.Z 0
 (.O (.pt 0 11) 1 [(.s (.x 3))] ⟨0,0,1,0,0,0⟩
 (.N (.le (.add (.len (.x 2)) (.len (.c [10]))) (.c 9223372036854775807))
 (.N (.le (.add (.len (.x 3)) (.len (.app (.x 2) (.c [10])))) (.c 9223372036854775807))
 (.Z 0
 (.store (.pt 0 11) [(.s (.app (.x 3) (.app (.x 2) (.c [10]))))]
 (.N (.R (.add (.x 11) (.c 1)))
 (.again 1 ⟨11,0,2,0,7,1⟩ ⟨12,0,2,0,7,1⟩ ⟨[(.add (.x 11) (.c 1))],[],[],[],[],[]⟩))))))))))
 (.O (.pt 0 12) 1 [(.sl (.x 7))] ⟨0,0,0,0,1,0⟩
 (.Z 0
 (.N (.R (.add (.add (.x 10) (.x 0)) (.c 1)))
 (.N (.and (.le (.cnt (.x 0)) (.cap (.x 0))) (.and (.le (.c 0) (.add (.add (.x 10) (.x 0)) (.c 1))) (.le (.add (.add (.x 10) (.x 0)) (.c 1)) (.cnt (.x 0)))))
 (.app (.x 7) (.sub (.x 0) (.add (.add (.x 10) (.x 0)) (.c 1)) (.cnt (.x 0)) 1) 1 16 9
 (.Z 0
 (.store (.pt 0 12) [(.sl (.x 8))]
 (.Z 0
 (.O (.pt 0 12) 1 [(.sl (.x 9))] ⟨0,0,0,0,1,0⟩
 (.ite (.lt (.c 1000) (.cnt (.x 9)))
 (.ret (.tup [(.agg [(.sl .nil),(.sl .nil),(.i .i64 (.c 0)),(.i .i64 (.c 0)),(.i .i64 (.c 0)),(.i .i64 (.c 0)),(.i .i64 (.c 0)),(.i .i64 (.c 0)),(.sl .nil),(.sl .nil),(.sl .nil),(.s (.c [])),(.sl .nil)]),(.I (.c 0)),(.I (.c 13))]))
 (.O (.pt 0 0) 13 [(.sl (.x 10)),(.sl (.x 11)),.J 12,.J 13,.J 14,.J 15,.J 16,.J 17,(.sl (.x 12)),(.sl (.x 13)),(.sl (.x 14)),(.s (.x 2)),(.sl (.x 15))] ⟨6,0,1,0,6,0⟩
 (.ret (.tup [(.agg [(.sl (.x 10)),(.sl (.x 11)),.J 12,.J 13,.J 14,.J 15,.J 16,.J 17,(.sl (.x 12)),(.sl (.x 13)),(.sl (.x 14)),(.s (.x 2)),(.sl (.x 15))]),(.I (.c 0)),(.I (.c 0))])))))))))))))))))))))
 (.ite (.lt (.c (-1)) (.c 0))
 (.ret (.tup [(.agg [(.sl .nil),(.sl .nil),(.i .i64 (.c 0)),(.i .i64 (.c 0)),(.i .i64 (.c 0)),(.i .i64 (.c 0)),(.i .i64 (.c 0)),(.i .i64 (.c 0)),(.sl .nil),(.sl .nil),(.sl .nil),(.s (.c [])),(.sl .nil)]),(.I (.c 0)),(.I (.c 15))]))
 (.N (.R (.add (.c (-1)) (.x 0)))
 (.N (.R (.add (.x 0) (.c 1)))
 (.N (.and (.and (.le (.c 0) (.add (.c (-1)) (.x 0))) (.le (.add (.c (-1)) (.x 0)) (.cap (.x 0)))) (.and (.le (.c 0) (.add (.x 0) (.c 1))) (.le (.add (.x 0) (.c 1)) (.add (.c (-1)) (.x 0)))))
 (.loop 1 ⟨[(.c 0)],[],[],[],[],[]⟩
 (.ite (.lt (.x 10) (.cnt (.sub (.x 0) (.add (.x 0) (.c 1)) (.add (.c (-1)) (.x 0)) 1)))
 (.N (.and (.and (.le (.c 0) (.x 10)) (.lt (.x 10) (.cnt (.sub (.x 0) (.add (.x 0) (.c 1)) (.add (.c (-1)) (.x 0)) 1)))) (.nns (.sub (.x 0) (.add (.x 0) (.c 1)) (.add (.c (-1)) (.x 0)) 1)))
 (.O (.el (.sub (.x 0) (.add (.x 0) (.c 1)) (.add (.c (-1)) (.x 0)) 1) (.x 10) 1 0) 1 [(.s (.x 2))] ⟨0,0,1,0,0,0⟩
 (.Z 0
 (.O (.pt 0 11) 1 [(.s (.x 3))] ⟨0,0,1,0,0,0⟩
 (.N (.le (.add (.len (.x 2)) (.len (.c [10]))) (.c 9223372036854775807))
 (.N (.le (.add (.len (.x 3)) (.len (.app (.x 2) (.c [10])))) (.c 9223372036854775807))
 (.Z 0
 (.store (.pt 0 11) [(.s (.app (.x 3) (.app (.x 2) (.c [10]))))]
 (.N (.R (.add (.x 10) (.c 1)))
 (.again 1 ⟨10,0,2,0,7,1⟩ ⟨11,0,2,0,7,1⟩ ⟨[(.add (.x 10) (.c 1))],[],[],[],[],[]⟩))))))))))
 (.O (.pt 0 12) 1 [(.sl (.x 7))] ⟨0,0,0,0,1,0⟩
 (.Z 0
 (.N (.R (.add (.add (.c (-1)) (.x 0)) (.c 1)))
 (.N (.and (.le (.cnt (.x 0)) (.cap (.x 0))) (.and (.le (.c 0) (.add (.add (.c (-1)) (.x 0)) (.c 1))) (.le (.add (.add (.c (-1)) (.x 0)) (.c 1)) (.cnt (.x 0)))))
 (.app (.x 7) (.sub (.x 0) (.add (.add (.c (-1)) (.x 0)) (.c 1)) (.cnt (.x 0)) 1) 1 16 9
 (.Z 0
 (.store (.pt 0 12) [(.sl (.x 8))]
 (.Z 0
 (.O (.pt 0 12) 1 [(.sl (.x 9))] ⟨0,0,0,0,1,0⟩
 (.ite (.lt (.c 1000) (.cnt (.x 9)))
 (.ret (.tup [(.agg [(.sl .nil),(.sl .nil),(.i .i64 (.c 0)),(.i .i64 (.c 0)),(.i .i64 (.c 0)),(.i .i64 (.c 0)),(.i .i64 (.c 0)),(.i .i64 (.c 0)),(.sl .nil),(.sl .nil),(.sl .nil),(.s (.c [])),(.sl .nil)]),(.I (.c 0)),(.I (.c 13))]))
 (.O (.pt 0 0) 13 [(.sl (.x 10)),(.sl (.x 11)),.J 11,.J 12,.J 13,.J 14,.J 15,.J 16,(.sl (.x 12)),(.sl (.x 13)),(.sl (.x 14)),(.s (.x 2)),(.sl (.x 15))] ⟨6,0,1,0,6,0⟩
 (.ret (.tup [(.agg [(.sl (.x 10)),(.sl (.x 11)),.J 11,.J 12,.J 13,.J 14,.J 15,.J 16,(.sl (.x 12)),(.sl (.x 13)),(.sl (.x 14)),(.s (.x 2)),(.sl (.x 15))]),(.I (.c 0)),(.I (.c 0))])))))))))))))))))))))))))))
theorem KY:df ⟨true,[5]⟩ Tryz.prog (fun l=>([⟨[3,4,26],[27,28,29,30,8,9,31,32,33,34,35,36,37,38,39,40],[2]⟩,⟨[59],[60,61,62,12,63,64,65,66,67,68,69],[5]⟩]:List dL).getD l ⟨[],[],[]⟩) Tryz.f6=Ce:=by kernel_rfl
theorem QL:aX Tryz.prog .zero Tryz.f6.params.toList=some ([.S 0],⟨0,0,1,0,0,0⟩):=by kernel_rfl
def MX (hP:Hp) (b:Nat) (s:List UInt8) (L:List (List UInt8)) (sl:bg) (g:Int) (C:Ctx):Prop:=
 ∃ (a1 a2:Int) (i:Nat) (a4 a5 a6 a7 a8 a9:Int) (s1:List UInt8) (l1 l2 l3 l4 l5 l6:bg) (hh:Hp) (q:Ss) (x:gu),
  C=⟨[g,a1,a2,(i:Int),a4,a5,a6,a7,a8,a9],[],[s,s1],[],[sl,l1,l2,l3,l4,l5,l6],[some (b,0)],hh,dY⟩∧Sps hP hh b q x∧eY gU x0 0 L=eY gU x i (L.drop i)∧
  i≤L.length∧(g=-1∨(i:Int)≤g)∧x.acts.length≤i∧x.names.length≤i∧x.src=[]∧x.lines=[]
def Nh (hP:Hp) (b:Nat) (s:List UInt8) (L:List (List UInt8)) (sl:bg) (g:Int) (C:Ctx):Prop:=
 ∃ (a1 a2 a3 a4 a5 a6 a7 a8 a9:Int) (e j:Nat) (s1 s2:List UInt8) (l1 l2 l3 l4 l5 l6:bg) (hh:Hp) (q:Ss) (x:gu) (r:List (List UInt8)),
  C=⟨[g,a1,a2,a3,a4,a5,a6,a7,a8,a9,((e+1:Nat):Int),(j:Int)],[],[s,s1,s2],[],[sl,l1,l2,l3,l4,l5,l6],[some (b,0)],hh,dY⟩∧Sps hP hh b q { x with src:=dG (r.take j) }∧eY gU x0 0 L=.ok (x,r)∧
  x.lines=[]∧0≤g∧g.toNat<L.length∧r=L.drop (g.toNat+1)∧e<r.length∧uo [] r=some (dG (r.take e),r.drop (e+1))∧j≤e
def Ur (hP:Hp) (b:Nat) (s:List UInt8) (L:List (List UInt8)) (sl:bg) (g:Int):Nat→Ctx→Prop:=fun o C=>if o=0 then MX hP b s L sl g C else Nh hP b s L sl g C
def ZT (h:Hp) (s:List UInt8):Nat→Ctx→Prop:=fun o C=>∃ (hP:Hp) (b:Nat) (sl:bg),Ur hP b s (bC s) sl (lN dE (bC s)) o C∧dm h hP∧qy hP∧Row hP sl (bZ (bC s)) (bC s).length 1∧sl.n≤sl.c
def Yg (n:Nat):Nat→Ctx→Nat:=fun o C=>if o=0 then n - (C.i.getD 3 0).toNat else n - (C.i.getD 11 0).toNat
set_option maxHeartbeats 8000000 in
def rX:Ct Tryz.prog where
 f:=6
 spec:=DD
 ok:=by
  rintro args h φ w ⟨s,rfl,hl,hM,hψ,hφ⟩ hH
  refine dD Tryz.func6 KY QL [NH,NF,BA] φ (ZT h s) (Yg (bC s).length) ⟨[],[],[s],[],[],[],h,dY⟩ ⟨rfl,rfl,rfl,rfl,rfl,rfl⟩ af ?_ w hH rfl
  generalize hE:(⟨aB _,_,_,_⟩:Env)=E
  have s_ctLines:E.spec 14=(NH).spec:=by rw[← hE];rfl
  have s_ctIndex:E.spec 15=(NF).spec:=by rw[← hE];rfl
  have s_ctSetting:E.spec 16=(BA).spec:=by rw[← hE];rfl
  have ep:E.post=φ:=by rw[← hE]
  have ei:E.inv=(ZT h s):=by rw[← hE]
  have em:E.meas=(Yg (bC s).length):=by rw[← hE]
  clear hE
  unfold Ce
  by_cases hlong:131072<s.length
  · rw[ai,if_pos (by simp[go_sem];omega)]
    rw[ae,aj,ep]
    exact hψ 0 3 (by unfold oq;rw[if_pos hlong]) qz h (fun _ _ h=>h) (um h)
  rw[ai,if_neg (by simp[go_sem];omega)]
  rw[ae,jZ]
  intro b hb
  have hb:h b=none:=hb
  rw[ae,aC]
  have hst:jk (h.set b ⟨bz qz xz,ST⟩) (some (b,0)) (bz qz x0)=some (h.set b ⟨bz qz x0,ST⟩):=by
   rw[aA,if_pos ⟨Nat.le_of_ble_eq_true rfl,by decide⟩];rfl
  refine⟨_,hst,?_⟩
  rw[ae,ak,if_pos (by rfl),s_ctLines]
  refine⟨s,rfl,by omega,hM.le (dF hb _),fun sl k hk hsb hsc R=>?_⟩
  have hk:dm (h.set b ⟨bz qz x0,ST⟩) k:=hk
  obtain⟨lb,hlb,hlb0⟩:=hsb
  have hlb0:(h.set b ⟨bz qz x0,ST⟩) lb=none:=hlb0
  have hne:lb≠b:=fun e=>by rw[e,ax] at hlb0;cases hlb0
  have hkb:=hk _ _ (ax h b ⟨bz qz x0,ST⟩)
  obtain⟨hP,hPd⟩:∃ hP:Hp,∀ c,hP c=if c=b then none else k c:=⟨fun c=>if c=b then none else k c,fun _=>rfl⟩
  have hPk:dm hP k:=fun c o hc=>by rw[hPd] at hc;split at hc;cases hc;exact hc
  have hPh:dm h hP:=fun c o hc=>by
   have hcb:c≠b:=fun e=>by rw[e,hb] at hc;cases hc
   rw[hPd,if_neg hcb]
   exact hk c o (by rw[bi _ hcb];exact hc)
  have RP:Row hP sl (bZ (bC s)) (bC s).length 1:=R.keep fun z o hz ho=>by
   rw[hlb] at hz;cases hz
   rw[hPd,if_neg hne];exact ho
  have S0:Sps hP k b qz x0:=⟨hkb,⟨fF _ _ _,rfl,fF _ _ _,rfl,fF _ _ _,rfl,fF _ _ _,rfl,fF _ _ _,rfl,rfl,rfl⟩,hPk,
   fun c hc=>⟨fun e=>hc (by rw[hPd,if_pos e]),fun z hz=>(by cases hz),fun z hz=>(by cases hz)⟩⟩
  obtain⟨z1,z2⟩:=yS s
  have hMP:=hM.le hPh
  refine⟨fun h=>(by cases h),(ah _ _).2 ⟨⟨[],[],[],[],[sl],[]⟩,rfl,af,rfl,?_⟩⟩
  rw[ae,ak,if_pos (by rfl),s_ctIndex]
  refine⟨sl,bC s,dE,rfl,R,by omega,?_⟩
  refine⟨fun h=>(by cases h),(ah _ _).2 ⟨⟨[lN dE (bC s)],[],[],[],[],[]⟩,rfl,af,rfl,?_⟩⟩
  have hic:=CQ dE (bC s)
  rw[ae]
  refine aQ ?_ ?_
  · rw[ei]
    refine⟨hP,b,sl,?_,hPh,hMP,RP,hsc⟩
    show MX hP b s (bC s) sl (lN dE (bC s)) _
    exact⟨0,0,0,0,0,0,0,0,0,[],iP,iP,iP,iP,iP,iP,k,qz,x0,rfl,S0,rfl,Nat.zero_le _,by rcases hic with ⟨h,_⟩ | ⟨i,_,h,_⟩<;>rw[h]<;>omega,Nat.le_refl _,Nat.le_refl _,rfl,rfl⟩
  clear S0 RP hPk hkb hk R hPh hMP hPd hsc hlb hlb0 hne
  rw[ei,em]
  rintro i' bb ss vv ll pp hh M ⟨hP,b,sl,⟨a1,a2,i,a4,a5,a6,a7,a8,a9,s1,l1,l2,l3,l4,l5,l6,hh',q,x,hC,S,hhd,hi,hgi,hac,hnc,hxs,hxl⟩,hPh,hMP,RP,hsc⟩ hM'
  cases hC
  have hM0:M 0=(bC s).length - i:=hM'
  have hsn:=RP.cnt
  have R:=RP.le S.fit.le
  generalize hLs:bC s=L at *
  by_cases hlt:i<L.length
  · have hx:L[i]? = some L[i]:=List.getElem?_eq_getElem hlt
    have hxl':=z2 L[i] (List.getElem_mem hlt)
    have hns:=RP.nns (by omega)
    rw[ai,if_pos (by simp[go_sem,hsn];omega)]
    rw[ae,ag];refine⟨by simp[go_sem,hsn,hns,hlt],?_⟩
    rw[ae,au,if_pos (by rfl)]
    refine (ah _ _).2 ⟨⟨[],[],[L[i]],[],[],[]⟩,rfl,af,by simpa[go_sem] using R.str hx,?_⟩
    by_cases hg:(i:Int)=lN dE L
    · have hxp:L[i]? = some dE:=by
       rcases hic with ⟨h,_⟩ | ⟨g,_,h,h3,_⟩
       · omega
       · rw[show i=g by omega];exact h3
      have hh2:eY gU x0 0 L=.ok (x,L.drop (i+1)):=by rw[hhd,yO hxp]
      rw[ae,ai,if_pos (by simp[go_sem];exact hg)]
      generalize hgg:lN dE L=g at *
      have hg':g=(i:Int):=hg.symm
      subst hg'
      rw[ae,ai,if_pos (by simp[go_sem])]
      rw[ae,ag];refine⟨by simp[go_sem,hsn];omega,?_⟩
      have hdl:(L.drop i).take (L.length - i)=L.drop i:=List.take_of_length_le (by simp)
      have R3:=R.part hsc (a:=i) (b:=L.length) hi (Nat.le_refl _)
      rw[hdl] at R3
      rw[ae,ak,if_pos (by rfl),s_ctIndex]
      refine⟨_,L.drop i,fD,rfl,?_,by simp;omega,?_⟩
      · refine (?_:Row hh (LE.den _ (.sub (.x 0) (.x 0) (.cnt (.x 0)) 1)) _ _ 1)
        rw[ut (s:=sl) (a:=i) (b:=L.length) rfl rfl (by rw[← hsn];rfl)]
        exact R3
      generalize hr:L.drop (i+1)=r at *
      have hdr:L.drop i=dE::r:=by
       rw[List.drop_eq_getElem_cons hlt,hr]
       rw[hx] at hxp
       rw[Option.some.inj hxp]
      have hrl:r.length=L.length - (i+1):=by rw[← hr];simp
      rcases CQ fD (L.drop i) with ⟨hem,hno⟩ | ⟨e1,he1,hem,hat,hno⟩
      · rw[hem]
        refine⟨fun h=>(by cases h),(ah _ _).2 ⟨⟨[(-1)],[],[],[],[],[]⟩,rfl,af,rfl,?_⟩⟩
        rw[ae,ai,if_pos (by simp[go_sem])]
        rw[ae,aj,ep]
        refine hψ 0 15 (Jg hlong (by rw[hLs];exact hh2) (vO _ _ fun y hy e=>?_)) qz hh (fun c o hc=>S.fit.le c o (hPh c o hc)) (um _)
        obtain⟨j,hj,hje⟩:=List.getElem_of_mem hy
        refine hno (j+1) (by rw[hdr];simp;omega) ?_
        rw[hdr,List.getElem?_cons_succ,List.getElem?_eq_getElem hj,hje,e]
      rw[hem]
      obtain⟨e,rfl⟩:∃ e,e1=e+1:=by
       cases e1 with
       | zero=>rw[hdr] at hat;simp at hat;exact absurd hat (by decide)
       | succ e=>exact⟨e,rfl⟩
      rw[hdr,List.getElem?_cons_succ] at hat
      have hel:=(List.getElem?_eq_some_iff.1 hat).1
      have hno':∀ j,j<e→r[j]?≠some fD:=fun j hj hc=>hno (j+1) (by omega) (by rw[hdr,List.getElem?_cons_succ];exact hc)
      have hsrc:=O3 hat hno' []
      rw[List.nil_append] at hsrc
      refine⟨fun h=>(by cases h),(ah _ _).2 ⟨⟨[(((e+1:Nat)):Int)],[],[],[],[],[]⟩,rfl,af,rfl,?_⟩⟩
      rw[ae,ai,if_neg (by simp[go_sem];omega)]
      rw[ae,ag];refine⟨by simp[go_sem];omega,?_⟩
      rw[ae,ag];refine⟨by simp[go_sem];omega,?_⟩
      rw[ae,ag];refine⟨by simp[go_sem];omega,?_⟩
      rw[ae]
      refine aQ ?_ ?_
      · rw[ei]
        refine⟨hP,b,sl,?_,hPh,hMP,by rw[hLs];exact RP,hsc⟩
        rw[hLs,hgg]
        show Nh hP b s L sl (i:Int) _
        refine⟨a1,a2,i,a4,a5,a6,a7,a8,a9,e,0,s1,L[i],l1,l2,l3,l4,l5,l6,hh,q,x,r,rfl,?_,hh2,hxl,by omega,by omega,by rw[← hr];rfl,hel,hsrc,Nat.zero_le _⟩
        have:{ x with src:=dG (r.take 0) }=x:=by
         cases x;simp only at hxs;subst hxs;rfl
        rw[this];exact S
      clear S RP R R3 hh2 hhd hxs hxl hPh hMP hsc hsn hM0 hM' hdl hns hac hnc hgi
      rw[ei,em]
      rintro i' bb ss vv ll pp hh5 M ⟨hP,b,sl,hI,hPh,hMP,RP,hsc⟩ hM'
      rw[hLs,hgg] at hI
      obtain⟨a1,a2,a3,a4,a5,a6,a7,a8,a9,e,j,s1,s2,l1,l2,l3,l4,l5,l6,hh',q,x,r,hC,S,hh2,hxl,hg0,hgl,hr,hel,hsrc,hj⟩:=hI
      cases hC
      have hM1:M 1=L.length - j:=hM'
      rw[hLs] at RP
      have hsn:=RP.cnt
      have R:=RP.le S.fit.le
      have hi1:(i:Int).toNat+1=i+1:=by omega
      rw[hi1] at hr
      have hrl:r.length=L.length - (i+1):=by rw[hr];simp
      have R2:=R.part hsc (a:=i+1) (b:=e+1+i) (by omega) (by omega)
      have hpt:(L.drop (i+1)).take (e+1+i - (i+1))=r.take e:=by rw[← hr];congr 1;omega
      rw[hpt] at R2
      have hsd:∀ C:Ctx,C.l.getD 0 ⟨none,0,0⟩=sl→C.i.getD 0 0=(i:Int)→C.i.getD 10 0=((e+1:Nat):Int)→
       LE.den C (.sub (.x 0) (.add (.x 0) (.c 1)) (.add (.x 10) (.x 0)) 1)=⟨if sl.c=i+1 then sl.a else sl.a.map fun x=>(x.1,x.2+(i+1)*1),e+1+i - (i+1),sl.c - (i+1)⟩:=fun C c1 c2 c3=>
       ut c1 (by show C.i.getD 0 0+1=_;rw[c2];omega) (by show C.i.getD 10 0+C.i.getD 0 0=_;rw[c2,c3];omega)
      by_cases hje:j<e
      · have hx2:(r.take e)[j]? = some r[j]:=by rw[List.getElem?_take_of_lt hje,List.getElem?_eq_getElem]
        have hns2:=R2.nns (by simp;omega)
        have hjz:r[j].length≤s.length:=z2 _ (List.mem_of_mem_drop (i:=i+1) (by rw[← hr];exact List.getElem_mem _))
        rw[ai,if_pos (by simp[go_sem];omega)]
        rw[ae,ag];refine⟨?_,?_⟩
        · rw[if_pos (by rfl)]
          simp only[BE.den,IE.den]
          rw[hsd _ rfl rfl rfl,hns2]
          simp[go_sem]
          omega
        rw[ae,au,if_pos (by rfl)]
        refine (ah _ _).2 ⟨⟨[],[],[r[j]],[],[],[]⟩,rfl,af,?_,?_⟩
        · show hread hh5 ((LE.den _ (.sub (.x 0) (.add (.x 0) (.c 1)) (.add (.x 10) (.x 0)) 1)).a.map fun x=>(x.1,x.2+((j:Int)).toNat*1+0)) 1=_
          rw[hsd _ rfl rfl rfl]
          exact R2.str hx2
        rw[ae,ag];refine⟨by simp[go_sem],?_⟩
        rw[ae,au,if_pos (by rfl)]
        refine (ah _ _).2 ⟨⟨[],[],[dG (r.take j)],[],[],[]⟩,rfl,af,lM S.blk rfl,?_⟩
        have hjl:=jl r j
        have hrL:(dG r).length≤(dG L).length:=by rw[hr];exact sZ L _
        have hLL:=uS s
        rw[hLs] at hLL
        rw[ae,ag];refine⟨by simp[go_sem];omega,?_⟩
        rw[ae,ag];refine⟨by simp[go_sem];omega,?_⟩
        rw[ae,ag];refine⟨by simp[go_sem],?_⟩
        rw[ae,aC]
        refine⟨_,jr S.blk (Nat.le_of_ble_eq_true rfl) (by decide),?_⟩
        rw[ae,ag];refine⟨by simp[go_sem];omega,?_⟩
        rw[ae,says_again,ei,em]
        have hjs:dG (r.take (j+1))=dG (r.take j)++(r[j]++[10]):=by rw[← dS];simp
        have S2:=S.num (y:={ x with src:=dG (r.take (j+1)) }) rfl rfl rfl rfl rfl rfl
        rw[hjs] at S2
        refine⟨⟨hP,b,sl,?_,hPh,hMP,by rw[hLs];exact RP,hsc⟩,?_⟩
        · rw[hLs,hgg]
          show Nh hP b s L sl (i:Int) _
          exact⟨a1,a2,a3,a4,a5,a6,a7,a8,a9,e,j+1,s1,s2,l1,l2,l3,l4,l5,l6,_,q,x,r,rfl,by rw[hjs];exact S2,hh2,hxl,hg0,hgl,by rw[hi1];exact hr,hel,hsrc,by omega⟩
        · show L.length - (((j:Int)+1).toNat)<M 1
          omega
      · have hjee:j=e:=by omega
        subst hjee
        rw[ai,if_neg (by simp[go_sem];omega)]
        rw[ae,au,if_pos (by rfl)]
        refine (ah _ _).2 ⟨⟨[],[],[],[],[q.l],[]⟩,rfl,af,lM S.blk rfl,?_⟩
        rw[ae,ag];refine⟨by simp[go_sem],?_⟩
        rw[ae,ag];refine⟨by simp[go_sem];omega,?_⟩
        rw[ae,ag];refine⟨by simp[go_sem,hsn];omega,?_⟩
        rw[ae,fG]
        have hm:(200002:Nat)≤maxLen:=by decide
        have hql:=S.w.l
        have R4:=R.part hsc (a:=j+1+i+1) (b:=L.length) (by omega) (Nat.le_refl _)
        have hdt:(L.drop (j+1+i+1)).take (L.length - (j+1+i+1))=r.drop (j+1):=by rw[List.take_of_length_le (by simp),hr,List.drop_drop];congr 1;omega
        rw[hdt] at R4
        have hsd4:∀ C:Ctx,C.l.getD 0 ⟨none,0,0⟩=sl→C.i.getD 0 0=(i:Int)→C.i.getD 10 0=((j+1:Nat):Int)→
         LE.den C (.sub (.x 0) (.add (.add (.x 10) (.x 0)) (.c 1)) (.cnt (.x 0)) 1)=⟨if sl.c=j+1+i+1 then sl.a else sl.a.map fun x=>(x.1,x.2+(j+1+i+1)*1),L.length - (j+1+i+1),sl.c - (j+1+i+1)⟩:=fun C c1 c2 c3=>
         ut c1 (by show C.i.getD 10 0+C.i.getD 0 0+1=_;rw[c2,c3];omega) (by show ((C.l.getD 0 ⟨none,0,0⟩).n:Int)=_;rw[c1,hsn])
        rw[hsd4 _ rfl rfl rfl]
        have hq0:∀ C:Ctx,C.l.getD 7 ⟨none,0,0⟩=q.l→LE.den C (.x 7)=iP:=fun C hc=>by rw[← hql];exact hc
        refine⟨[],bZ (r.drop (j+1)),.inl ⟨hq0 _ rfl,rfl⟩,R4.rd,gX _,?_,?_,fun s' k g1 g2 g3 g4=>?_⟩
        · rw[hq0 _ rfl];show 0+(L.length - (j+1+i+1))≤maxLen;omega
        · rw[hq0 _ rfl];show (0+(L.length - (j+1+i+1)))*16≤_;omega
        have hkk:dm hh5 k:=fun c o hc=>g4 c o (fun z hz=>by rw[hq0 _ rfl] at hz;cases hz) hc
        have g2':s'.n=(r.drop (j+1)).length:=by rw[g2,hq0 _ rfl];show 0+(L.length - (j+1+i+1))=_;simp;omega
        have S3:=S.le hkk
        have o3:bJ k s' (bZ (r.drop (j+1))) NT 1:=g1
        rw[ag];refine⟨by simp[go_sem],?_⟩
        rw[ae,aC]
        refine⟨_,jr S3.blk (Nat.le_of_ble_eq_true rfl) (by decide),?_⟩
        generalize hkf:k.set b ⟨bz { q with l:=s' } { x with src:=dG (r.take j),lines:=r.drop (j+1) },ST⟩=kf
        have hkfb:kf b=some ⟨bz { q with l:=s' } { x with src:=dG (r.take j),lines:=r.drop (j+1) },ST⟩:=by rw[← hkf];exact ax _ _ _
        have hkfo:∀ c o,c≠b→k c=some o→kf c=some o:=fun c o hc ho=>by rw[← hkf,bi _ hc];exact ho
        have hheap:(k.set b ⟨(bz q { x with src:=dG (r.take j) }).take 12++[s'.val]++(bz q { x with src:=dG (r.take j) }).drop (12+1),ST⟩)=kf:=by rw[← hkf];rfl
        have W:=S3.w.but S3.blk hkfo
        have o4:bJ kf s' (bZ (r.drop (j+1))) NT 1:=cZ o3 fun z _ hz hc=>hkfo _ _ (own_ne o3 S3.blk Dv z hz) hc
        have hhP:dm hP kf:=fun c o hc=>hkfo c o (S3.fit.apart c (by rw[hc];simp)).b (S3.fit.le c o hc)
        have hhK:dm h kf:=fun c o hc=>hhP c o (hPh c o hc)
        have hR:FX kf { q with l:=s' } { x with src:=dG (r.take j),lines:=r.drop (j+1) }:=
         ⟨Row.eu W.i W.i',Row.eu W.d W.d',Row.eu W.e W.e',Row.eu W.a W.a',Row.eu W.n W.n',Row.eu o4 g2'⟩
        show Then E _ ((Ctx.push _ _).heap (k.set b ⟨(bz q { x with src:=dG (r.take j) }).take 12++[s'.val]++(bz q { x with src:=dG (r.take j) }).drop (12+1),ST⟩))
        rw[hheap]
        rw[ae,ag];refine⟨by simp[go_sem],?_⟩
        rw[ae,au,if_pos (by rfl)]
        refine (ah _ _).2 ⟨⟨[],[],[],[],[s'],[]⟩,rfl,af,lM hkfb rfl,?_⟩
        by_cases hbig:1000<(r.drop (j+1)).length
        · rw[ae,ai,if_pos (by simp[go_sem,g2'] at hbig ⊢;omega)]
          rw[ae,aj,ep]
          exact hψ 0 13 (Jf hlong (by rw[hLs];exact hh2) hsrc hbig) qz kf hhK (um _)
        · rw[ae,ai,if_neg (by simp[go_sem,g2'] at hbig ⊢;omega)]
          rw[ae,au,if_pos (by rfl)]
          refine (ah _ _).2 ⟨⟨[x.fuel,x.heap,x.stack,x.every,x.keep,x.hot],[],[dG (r.take j)],[],[q.i,q.d,q.e,q.a,q.n,s'],[]⟩,rfl,af,YL hkfb rfl,?_⟩
          rw[ae,aj,ep]
          exact hφ _ (Uy hlong (by rw[hLs];exact hh2) hsrc hbig) { q with l:=s' } kf hhK hR
    · rw[ae,ai,if_neg (by simp[go_sem];exact hg)]
      have hne:L[i]≠dE:=fun e=>by
       rcases hic with ⟨_,h⟩ | ⟨g,_,h,h3,h4⟩
       · exact h i hlt (by rw[hx,e])
       · rcases hgi with h5 | h5
         · omega
         · by_cases h6:g=i
           · omega
           · exact h4 i (by omega) (by rw[hx,e])
      rw[ae,ak,if_pos (by rfl),s_ctSetting]
      refine⟨hP,b,q,x,L[i],rfl,S,hMP,by omega,by omega,by omega,fun y hy q' k' S'=>?_,fun hn k' hk'=>?_⟩
      · refine⟨fun h=>(by cases h),(ah _ _).2 ⟨⟨[],[true],[],[],[],[]⟩,rfl,af,rfl,?_⟩⟩
        rw[ae,ai,if_neg (by simp[go_sem])]
        rw[ae,ag];refine⟨by simp[go_sem];omega,?_⟩
        rw[ae,says_again,ei,em]
        obtain⟨g1,g2,g3,g4⟩:=DY hy
        refine⟨⟨hP,b,sl,?_,hPh,hMP,by rw[hLs];exact RP,hsc⟩,?_⟩
        · rw[hLs]
          show MX hP b s L sl (lN dE L) _
          refine⟨a1,a2,i+1,a4,a5,a6,a7,a8,a9,s1,l1,l2,l3,l4,l5,l6,k',q',y,rfl,S',?_,by omega,?_,by omega,by omega,by rw[g3];exact hxs,by rw[g4];exact hxl⟩
          · rw[hhd,sU hx hne,hy]
          · rcases hgi with h5 | h5
            · exact .inl h5
            · exact .inr (by omega)
        · show L.length - (((i:Int)+1).toNat)<M 0
          omega
      · refine⟨fun h=>(by cases h),(ah _ _).2 ⟨⟨[],[false],[],[],[],[]⟩,rfl,af,rfl,?_⟩⟩
        rw[ae,ai,if_pos (by simp[go_sem])]
        rw[ae,ag];refine⟨by simp[go_sem];omega,?_⟩
        rw[ae,aj,ep]
        have:=hψ (i+1) 24 (xy hlong (by rw[hLs,hhd,sU hx hne,hn])) qz k' (fun c o hc=>hk' c o (hPh c o hc)) (um _)
        exact this
  · have hie:i=L.length:=by omega
    have hgm:lN dE L=-1:=by
     rcases hic with ⟨h,_⟩ | ⟨g,h1,h2,_⟩
     · exact h
     · omega
    rw[ai,if_neg (by simp[go_sem,hsn];omega)]
    rw[ae,ai,if_neg (by simp[go_sem,hgm])]
    rw[ae,ai,if_pos (by simp[go_sem])]
    rw[ae,aj,ep]
    exact hψ 0 15 (xy hlong (by rw[hLs,hhd,hie,List.drop_length];rfl)) qz hh (fun c o hc=>S.fit.le c o (hPh c o hc)) (um _)
end Go.Proofs.YtgpanefhaiohnaaGreatDoor
namespace Go.Proofs.YtgpanefhaiohnaaGreatDoor
open Go.RowKit
inductive CV where
 | i (k:IntKind) (n:Int) | b (v:Bool) | s (l:List Nat) | p (b o:Nat) | np | sl (b o n c:Nat) | su (b e z n:Nat) | ns | m (b:Nat) | nm | f (f:Nat) (l:List (Nat×Nat)) | nf | v (n:Nat) | ni | un
 deriving DecidableEq
inductive PV where
 | c (x:CV) | a (l:List CV)
 deriving DecidableEq
inductive EV where
 | p (x:PV) | t (l:List PV)
 deriving DecidableEq
inductive EB where
 | c (cs:List CV) (ty:TypeId)
 | m (ck:Nat) (l:List (CV×PV×Nat))
 | it (s:List Nat) (k:Nat)
 | mi (q:Nat)
 deriving DecidableEq
def PV.cells:PV→List CV
 | .c x=>[x]
 | .a l=>l
inductive iL (α:Type) where
 | nil | nd (v:Option α) (l r:iL α)
def iL.get {α:Type}:iL α→Nat→Option α
 | .nil,_=>none
 | .nd v _ _,0=>v
 | .nd _ l r,k+1=>bif Nat.beq (Nat.mod k 2) 0 then l.get (Nat.div k 2) else r.get (Nat.div k 2)
def iL.Vb {α:Type} (v:Option α) (r:iL α):iL α→iL α
 | .nil=>.nil
 | .nd a b c=>.nd v (.nd a b c) r
def iL.Vd {α:Type} (v:Option α) (l:iL α):iL α→iL α
 | .nil=>.nil
 | .nd a b c=>.nd v l (.nd a b c)
def iL.put {α:Type} (x:Option α):Nat→Nat→iL α→iL α
 | 0,_,_=>.nil
 | _+1,0,.nil=>.nd x .nil .nil
 | _+1,0,.nd _ l r=>.nd x l r
 | f+1,k+1,.nil=>bif Nat.beq (Nat.mod k 2) 0 then iL.Vb none .nil (put x f (Nat.div k 2) .nil) else iL.Vd none .nil (put x f (Nat.div k 2) .nil)
 | f+1,k+1,.nd v l r=>bif Nat.beq (Nat.mod k 2) 0 then iL.Vb v r (put x f (Nat.div k 2) l) else iL.Vd v l (put x f (Nat.div k 2) r)
def nD:Nat:=24
def fN {α:Sort _} (n:Nat) (K:Nat→α):α:=match n with
 | 0=>K 0
 | k+1=>K (k+1)
def fI {α:Sort _} (n:Int) (K:Int→α):α:=match n with
 | .ofNat m=>fN m fun k=>K (.ofNat k)
 | .negSucc m=>fN m fun k=>K (.negSucc k)
def fB {α:Sort _} (b:Bool) (K:Bool→α):α:=match b with
 | true=>K true
 | false=>K false
theorem fE {α:Sort _} (n:Nat) (K:Nat→α):fN n K=K n:=by cases n<;>rfl
theorem SX {α:Sort _} (n:Int) (K:Int→α):fI n K=K n:=by cases n<;>simp[fI,fE]
theorem ZC {α:Sort _} (b:Bool) (K:Bool→α):fB b K=K b:=by cases b<;>rfl
def nth {α:Type}:List α→Nat→Option α
 | [],_=>none
 | x::_,0=>some x
 | _::l,n+1=>nth l n
def BG {α:Type}:Nat→List α→List α
 | 0,l=>l
 | _+1,[]=>[]
 | n+1,_::l=>BG n l
def ku {α:Type} (x:α):Option (List α)→Option (List α)
 | none=>none
 | some l=>some (x::l)
def takeC {α:Type}:Nat→List α→Option (List α)
 | 0,_=>some []
 | _+1,[]=>none
 | n+1,x::l=>ku x (takeC n l)
def app {α:Type}:List α→List α→List α
 | [],l=>l
 | x::k,l=>match app k l with
   | []=>[x]
   | y::r=>x::y::r
def over {α:Type}:List α→List α→Option (List α)
 | [],l=>some l
 | _::_,[]=>none
 | x::k,_::l=>ku x (over k l)
def JE {α:Type}:Nat→List α→List α→Option (List α)
 | 0,k,l=>over k l
 | _+1,_,[]=>none
 | n+1,k,x::l=>ku x (JE n k l)
def IJ {α β:Type} (f:α→Option β):List α→Option (List β)
 | []=>some []
 | x::l=>match f x with
   | none=>none
   | some y=>ku y (IJ f l)
def PN:Value→Option CV
 | .int k n=>some (.i k n)
 | .bool b=>some (.b b)
 | .string s=>some (.s (s.data.toList.map UInt8.toNat))
 | .pointer none=>some .np
 | .slice none 0 0=>some .ns
 | .map none=>some .nm
 | .nilFunc=>some .nf
 | .nilIface=>some .ni
 | .tuple ⟨[]⟩=>some .un
 | _=>none
def Xn:Value→Option PV
 | .agg cs=>(IJ PN cs.toList).map .a
 | v=>(PN v).map .c
abbrev Tm:=iL EV
def Uj (T:Tm):Operand→Option EV
 | .tmp t=>T.get t
 | .const v=>(Xn v).map .p
 | .func f=>some (.p (.c (.f f [])))
 | .global _=>none
def Rk (T:Tm) (x:Operand):Option PV:=match Uj T x with
 | some (.p v)=>some v
 | _=>none
def opC (T:Tm) (x:Operand):Option CV:=match Uj T x with
 | some (.p (.c v))=>some v
 | _=>none
def C0:Ctx:=⟨[],[],[],[],[],[],fun _=>none,fun _=>0⟩
def Zx:iy:=⟨false,[]⟩
def CV.ce:CV→Option CE
 | .i k n=>some (.i k (.c n))
 | .b q=>some (.b (.c q))
 | .s l=>some (.s (.c l))
 | _=>none
def PV.pe:PV→Option PE
 | .c x=>x.ce.map .one
 | .a l=>(IJ CV.ce l).map .agg
def DV (x:Option (BE×PE)):Option EV:=match x with
 | some (c,.one (.i k e))=>match c.den C0 with
   | true=>fI (e.den C0) fun n=>some (.p (.c (.i k n)))
   | false=>none
 | some (c,.one (.b e))=>match c.den C0 with
   | true=>fB (e.den C0) fun n=>some (.p (.c (.b n)))
   | false=>none
 | _=>none
def YA (P:Program) (op:BinOp) (t:TypeId):PV→PV→Option EV
 | .c (.s a),.c (.s b)=>match op with
   | .add=>bif Nat.ble (a.length+b.length) 1000000 then (match app a b with
     | []=>some (.p (.c (.s [])))
     | x::l=>some (.p (.c (.s (x::l))))) else none
   | op=>DV (O7 op (.c a) (.c b))
 | .c (.p _ _),.c .np=>match P.underlying t,op with
   | some (.pointer _),.eql=>some (.p (.c (.b false)))
   | some (.pointer _),.neq=>some (.p (.c (.b true)))
   | _,_=>none
 | .c .np,.c .np=>match P.underlying t,op with
   | some (.pointer _),.eql=>some (.p (.c (.b true)))
   | some (.pointer _),.neq=>some (.p (.c (.b false)))
   | _,_=>none
 | .c (.sl _ _ _ _),.c .ns=>match P.underlying t,op with
   | some (.slice _),.eql=>some (.p (.c (.b false)))
   | some (.slice _),.neq=>some (.p (.c (.b true)))
   | _,_=>none
 | .c (.su _ _ _ _),.c .ns=>match P.underlying t,op with
   | some (.slice _),.eql=>some (.p (.c (.b false)))
   | some (.slice _),.neq=>some (.p (.c (.b true)))
   | _,_=>none
 | .c .ns,.c .ns=>match P.underlying t,op with
   | some (.slice _),.eql=>some (.p (.c (.b true)))
   | some (.slice _),.neq=>some (.p (.c (.b false)))
   | _,_=>none
 | x,y=>match x.pe,y.pe with
   | some a,some b=>DV (VU Zx P op t a b)
   | _,_=>none
def unV (op:UnOp) (x:PV):Option EV:=match x.pe with
 | some a=>DV (unE Zx op a)
 | none=>none
def RZ (P:Program) (s d:TypeId):PV→Option EV
 | .c (.s l)=>match P.underlying s,P.underlying d with
   | some .string,some .string=>some (.p (.c (.s l)))
   | _,_=>none
 | .c (.i k n)=>DV (GI P s d (.one (.i k (.c n))))
 | _=>none
def OT (P:Program) (t:TypeId) (l:List CV) (off:Nat):Option EV:=
 match P.underlying t,bU P t with
 | some _,some n=>match fZ P t with
   | true=>match takeC n (BG off l) with
     | some r=>some (.p (.a r))
     | none=>none
   | false=>match nth l off with
     | some x=>some (.p (.c x))
     | none=>none
 | _,_=>none
def idxOf (n:Int) (len:Nat):Option Nat:=match n with
 | .ofNat k=>bif Nat.blt k len then some k else none
 | .negSucc _=>none
def Yy (P:Program) (t:TypeId) (x:CV) (i:CV):Option EV:=match i with
 | .i _ n=>match P.underlying t,x with
   | some (.slice e),.sl b o len _=>match bU P e,idxOf n len with
     | some z,some k=>fN (Nat.add o (Nat.mul k z)) fun a=>some (.p (.c (.p b a)))
     | _,_=>none
   | some (.slice e),.su b e0 z0 len=>match bU P e,idxOf n len with
     | some z,some k=>bif Nat.beq z z0 then fN (Nat.mul (Nat.add e0 k) z) fun a=>some (.p (.c (.p b a))) else none
     | _,_=>none
   | some (.array len e),.p b o=>match bU P e,idxOf n len with
     | some z,some k=>fN (Nat.add o (Nat.mul k z)) fun a=>some (.p (.c (.p b a)))
     | _,_=>none
   | _,_=>none
 | _=>none
def fH (x:Option CV) (d:Nat):Option Nat:=match x with
 | none=>some d
 | some (.i _ (.ofNat k))=>some k
 | _=>none
def Na (P:Program) (t:TypeId) (x:CV) (lo hi mx:Option CV):Option EV:=match P.underlying t,x with
 | some .string,.s l=>match mx,fH lo 0,fH hi l.length with
   | none,some a,some b=>bif Nat.ble a b&&Nat.ble b l.length then (match takeC (Nat.sub b a) (BG a l) with
     | some r=>some (.p (.c (.s r)))
     | none=>none) else none
   | _,_,_=>none
 | some (.slice e),.sl b o n c=>match bU P e,fH lo 0,fH hi n,fH mx c with
   | some z,some l,some h,some m=>bif Nat.ble l h&&(Nat.ble h m&&Nat.ble m c) then (bif Nat.beq m l then some (.p (.c (.sl b o 0 0))) else
     fN (Nat.add o (Nat.mul l z)) fun a=>fN (Nat.sub h l) fun n=>fN (Nat.sub m l) fun c=>some (.p (.c (.sl b a n c)))) else none
   | _,_,_,_=>none
 | some (.slice e),.su b e0 z0 n=>match bU P e,fH lo 0,fH hi n with
   | some z,some l,some h=>bif Nat.beq z z0&&(Nat.ble l h&&Nat.ble h n) then (match mx with
     | none=>bif Nat.beq l 0||Nat.blt l n then fN (Nat.add e0 l) fun e=>fN (Nat.sub h l) fun n=>some (.p (.c (.su b e z0 n))) else none
     | some _=>match fH mx 0 with
       | some m=>bif Nat.ble h m&&Nat.ble m n then (bif Nat.beq m l then fN (Nat.mul e0 z0) fun a=>some (.p (.c (.sl b a 0 0))) else
         fN (Nat.mul (Nat.add e0 l) z0) fun a=>fN (Nat.sub h l) fun n=>fN (Nat.sub m l) fun c=>some (.p (.c (.sl b a n c)))) else none
       | none=>none) else none
   | _,_,_=>none
 | some (.slice e),.ns=>match fH lo 0,fH hi 0,fH mx 0,(bU P e).isSome with
   | some 0,some 0,some 0,true=>some (.p (.c .ns))
   | _,_,_,_=>none
 | some (.array len e),.p b o=>match bU P e,fH lo 0,fH hi len,mx with
   | some z,some l,some h,none=>bif Nat.ble l h&&Nat.ble h len then (bif Nat.beq len l then some (.p (.c (.sl b o 0 0))) else
     fN (Nat.add o (Nat.mul l z)) fun a=>fN (Nat.sub h l) fun n=>fN (Nat.sub len l) fun c=>some (.p (.c (.sl b a n c)))) else none
   | _,_,_,_=>none
 | _,_=>none
def Uo (T:Tm):Option Operand→Option (Option CV)
 | none=>some none
 | some x=>match opC T x with
   | some v=>some (some v)
   | none=>none
def BK (place:Nat→Option (Nat×Nat)) (T:Tm):List (Nat×Operand)→List CV→Option (List CV)
 | [],cs=>some cs
 | (i,x)::r,cs=>match place i,Rk T x with
   | some (off,size),some v=>bif Nat.beq v.cells.length size then (match JE off v.cells cs with
     | some ds=>BK place T r ds
     | none=>none) else none
   | _,_=>none
def zeroV (P:Program) (t:TypeId):Option (List CV):=match jS P t with
 | some l=>IJ PN l
 | none=>none
def J7 (P:Program) (t:TypeId) (T:Tm) (parts:List (Nat×Operand)):Option EV:=
 match P.underlying t,zeroV P t with
 | some (.struct fs),some z=>bif fs.toList.all (fun f=>(bU P f.type).isSome) then (match BK (nM P t) T parts z with
   | some l=>some (.p (.a l))
   | none=>none) else none
 | some (.array _ e),some z=>match bU P e with
   | some n=>match BK (fun i=>some (i*n,n)) T parts z with
     | some l=>some (.p (.a l))
     | none=>none
   | none=>none
 | _,_=>none
def OU (T:Tm):List Operand→Option (List (Nat×Nat))
 | []=>some []
 | x::l=>match opC T x with
   | some (.p b o)=>ku (b,o) (OU T l)
   | _=>none
def lenV (P:Program) (t:TypeId):CV→Option EV
 | .s l=>match P.underlying t with
   | some .string=>fN l.length fun n=>some (.p (.c (.i .i64 (.ofNat n))))
   | _=>none
 | .sl _ _ n _=>match P.underlying t with
   | some (.slice _)=>some (.p (.c (.i .i64 (.ofNat n))))
   | _=>none
 | .su _ _ _ n=>match P.underlying t with
   | some (.slice _)=>some (.p (.c (.i .i64 (.ofNat n))))
   | _=>none
 | .ns=>match P.underlying t with
   | some (.slice _)=>some (.p (.c (.i .i64 (.ofNat 0))))
   | _=>none
 | _=>none
def CU (T:Tm):List Operand→Option (IntKind×List Int)
 | []=>none
 | [x]=>match opC T x with
   | some (.i k n)=>some (k,[n])
   | _=>none
 | x::l=>match opC T x,CU T l with
   | some (.i k n),some (k',r)=>if k=k' then some (k,n::r) else none
   | _,_=>none
def Ud:Int→List Int→Int
 | x,[]=>x
 | x,y::l=>Ud (bif Int.blt' x y then y else x) l
where Int.blt' (a b:Int):Bool:=JU a b
def WR:Int→List Int→Int
 | x,[]=>x
 | x,y::l=>WR (bif JU y x then y else x) l
def FY (P:Program) (T:Tm):Op→Option EV
 | .move x=>Uj T x
 | .assign x=>Uj T x
 | .pick c a b=>match opC T c with
   | some (.b true)=>Uj T a
   | some (.b false)=>Uj T b
   | _=>none
 | .nilCheck x=>match opC T x with
   | some (.p b o)=>some (.p (.c (.p b o)))
   | _=>none
 | .binOp op t x y _=>match Rk T x,Rk T y with
   | some a,some b=>YA P op t a b
   | _,_=>none
 | .unOp op _ x=>match Rk T x with
   | some a=>unV op a
   | none=>none
 | .convert s d x=>match Rk T x with
   | some a=>RZ P s d a
   | none=>none
 | .fieldAddr s x f=>match opC T x,jV P s f with
   | some (.p b o),some (off,t)=>match bU P t with
     | some 0=>none
     | some _=>fN (Nat.add o off) fun a=>some (.p (.c (.p b a)))
     | none=>none
   | _,_=>none
 | .field s x f=>match Rk T x,jV P s f with
   | some (.a l),some (off,t)=>OT P t l off
   | _,_=>none
 | .indexAddr t x i=>match opC T x,opC T i with
   | some a,some b=>Yy P t a b
   | _,_=>none
 | .index t x i=>match Rk T x,opC T i,P.underlying t with
   | some (.c (.s l)),some (.i _ (.ofNat k)),some .string=>match nth l k with
     | some n=>fN (Nat.mod n 256) fun m=>some (.p (.c (.i .u8 (.ofNat m))))
     | none=>none
   | some (.a l),some (.i _ n),some (.array len e)=>match bU P e,idxOf n len with
     | some z,some k=>OT P e l (Nat.mul k z)
     | _,_=>none
   | _,_,_=>none
 | .slice t x lo hi mx=>match opC T x,Uo T lo,Uo T hi,Uo T mx with
   | some a,some l,some h,some m=>bif m.isNone||h.isSome then Na P t a l h m else none
   | _,_,_,_=>none
 | .extract x i=>match Uj T x with
   | some (.t l)=>match nth l i with
     | some v=>some (.p v)
     | none=>none
   | _=>none
 | .build t parts=>J7 P t T parts.toList
 | .makeFunc (.func f) first cap=>match first.toList,OU T cap.toList with
   | [],some l=>some (.p (.c (.f f l)))
   | _,_=>none
 | .call { callee:=.builtin .len,args,argTypes }=>match args.toList,argTypes.toList with
   | [x],t::_=>match opC T x with
     | some v=>lenV P t v
     | none=>none
   | _,_=>none
 | .call { callee:=.builtin .max,args,.. }=>match CU T args.toList with
   | some (k,x::l)=>fI (Ud x l) fun n=>some (.p (.c (.i k n)))
   | _=>none
 | .call { callee:=.builtin .min,args,.. }=>match CU T args.toList with
   | some (k,x::l)=>fI (WR x l) fun n=>some (.p (.c (.i k n)))
   | _=>none
 | .call { callee:=.builtin .unsafeSliceData,args,.. }=>match args.toList with
   | [x]=>match opC T x with
     | some .ns=>some (.p (.c .np))
     | some (.sl b o _ c)=>bif Nat.beq c 0 then none else some (.p (.c (.p b o)))
     | some (.su b e z n)=>bif Nat.beq n 0 then none else fN (Nat.mul e z) fun a=>some (.p (.c (.p b a)))
     | _=>none
   | _=>none
 | _=>none
abbrev Hm:=iL EB
def wK (H:Hm) (b o n:Nat):Option (List CV):=match H.get b with
 | some (.c cs _)=>takeC n (BG o cs)
 | _=>none
def lY (H:Hm) (z:Nat):CV→Option (List CV)
 | .sl b o n _=>bif Nat.beq n 0 then some [] else wK H b o (Nat.mul n z)
 | .su b e z0 n=>bif Nat.beq z z0 then (bif Nat.beq n 0 then some [] else wK H b (Nat.mul e z) (Nat.mul n z)) else none
 | .ns=>some []
 | _=>none
def tC (P:Program) (t:TypeId):CV→Bool
 | .i k _=>match P.underlying t with
   | some (.int j)=>decide (j=k)
   | _=>false
 | .s _=>match P.underlying t with
   | some .string=>true
   | _=>false
 | _=>false
def Jw:CV→CV→Option Bool
 | .i k a,.i j b=>if k=j then some (decide (a=b)) else none
 | .s a,.s b=>some (decide (a.map (fun x=>Nat.mod x 256)=b.map fun x=>Nat.mod x 256))
 | _,_=>none
abbrev xC:=List (CV×PV×Nat)
def Hq (k:CV):xC→Nat→Option (Option (Nat×PV))
 | [],_=>some none
 | (c,v,_)::r,i=>match Jw k c with
   | some true=>some (some (i,v))
   | some false=>Hq k r (i+1)
   | none=>none
def XI (k:CV) (v:PV):Nat→xC→xC
 | _,[]=>[]
 | 0,(_,_,n)::r=>(k,v,n)::r
 | i+1,x::r=>x::XI k v i r
def BH (H:Hm):CV→Option xC
 | .nm=>some []
 | .m b=>match H.get b with
   | some (.m _ l)=>some l
   | _=>none
 | _=>none
def Yu (P:Program) (t:TypeId):Option PV:=match (P.info? t).bind (·.zero) with
 | some z=>Xn z
 | none=>none
def bytesOf:List CV→Option (List Nat)
 | []=>some []
 | .i .u8 (.ofNat k)::l=>bif Nat.blt k 256 then ku k (bytesOf l) else none
 | _=>none
def yB (P:Program) (T:Tm) (H:Hm):Op→Option EV
 | .load t x=>match opC T x with
   | some (.p b o)=>match P.underlying t,bU P t with
     | some _,some n=>match wK H b o n with
       | some l=>match fZ P t with
         | true=>some (.p (.a l))
         | false=>match l with
           | [c]=>some (.p (.c c))
           | _=>none
       | none=>none
     | _,_=>none
   | _=>none
 | .convert s d x=>match rQ P s d,opC T x with
   | true,some v=>match lY H 1 v with
     | some l=>match bytesOf l with
       | some r=>some (.p (.c (.s r)))
       | none=>none
     | none=>none
   | _,_=>none
 | _=>none
def Zm (P:Program) (T:Tm) (H:Hm):Op→Option EV
 | .lookup t x i ok=>match P.underlying t,opC T x,opC T i with
   | some (.map kt el),some m,some k=>match tC P kt k,BH H m with
     | true,some l=>match Hq k l 0 with
       | some (some (_,v))=>match ok with
         | true=>some (.t [v,.c (.b true)])
         | false=>some (.p v)
       | some none=>match Yu P el with
         | some z=>match ok with
           | true=>some (.t [z,.c (.b false)])
           | false=>some (.p z)
         | none=>none
       | none=>none
     | _,_=>none
   | _,_,_=>none
 | _=>none
def Wl (P:Program) (T:Tm) (H:Hm) (op:Op):Option EV:=match yB P T H op with
 | some e=>some e
 | none=>Zm P T H op
def UR (z:List CV):Nat→List CV
 | 0=>[]
 | n+1=>app z (UR z n)
def rq:List CV→Bool
 | []=>true
 | .un::_=>false
 | _::l=>rq l
def VK (P:Program) (T:Tm):Op→Option (EB×(Nat→CV))
 | .alloc t=>match zeroV P t with
   | some z=>some (.c z t,fun b=>.p b 0)
   | none=>none
 | .box t x=>match Rk T x with
   | some v=>bif rq v.cells then some (.c v.cells t,fun b=>.p b 0) else none
   | none=>none
 | .buildSlice t len parts=>match P.underlying t with
   | some (.slice e)=>match bU P e,zeroV P e with
     | some z,some zs=>bif Nat.blt 0 z&&(Nat.beq zs.length z&&Nat.ble (Nat.mul len z) 16777216) then (match BK (fun i=>some (i*z,z)) T parts.toList (UR zs len) with
       | some l=>bif rq l then some (.c l e,fun b=>.sl b 0 len len) else none
       | none=>none) else none
     | _,_=>none
   | _=>none
 | .makeSlice t x y=>match P.underlying t,opC T x,opC T y with
   | some (.slice e),some (.i _ (.ofNat n)),some (.i _ (.ofNat c))=>match bU P e,zeroV P e,P.info? e with
     | some z,some zs,some i=>bif Nat.blt 0 z&&(Nat.beq zs.length z&&(Nat.ble n c&&(Nat.ble c 1000000&&Nat.ble i.bytes 1000000))) then some (.c (UR zs c) e,fun b=>.sl b 0 n c) else none
     | _,_,_=>none
   | _,_,_=>none
 | .makeMap _ none=>some (.m 0 [],fun b=>.m b)
 | .range t x=>match P.underlying t,opC T x with
   | some .string,some (.s l)=>some (.it l 0,fun b=>.p b 0)
   | _,_=>none
 | _=>none
inductive XR where
 | w (x:EV) (H:Hm) (n:Nat)
 | call (f:FuncId) (args:List EV)
def Nv (T:Tm):List Operand→Option (List EV)
 | []=>some []
 | x::l=>match Uj T x with
   | some (.p v)=>ku (.p v) (Nv T l)
   | _=>none
def qC (H:Hm) (b:Nat) (x:Option EB) (K:Hm→Option XR):Option XR:=match H.put x nD b with
 | .nil=>none
 | .nd v l r=>K (.nd v l r)
def Zd (P:Program) (H:Hm) (z:Nat) (t:TypeId):CV→Option (List CV×Nat)
 | .s l=>match P.underlying t with
   | some .string=>bif Nat.beq z 1 then some (l.map fun c=>.i .u8 (.ofNat (Nat.mod c 256)),l.length) else none
   | _=>none
 | .sl b o n c=>match P.underlying t,lY H z (.sl b o n c) with
   | some (.slice _),some l=>some (l,n)
   | _,_=>none
 | .su b e z0 n=>match P.underlying t,lY H z (.su b e z0 n) with
   | some (.slice _),some l=>some (l,n)
   | _,_=>none
 | .ns=>match P.underlying t with
   | some (.slice _)=>some ([],0)
   | _=>none
 | _=>none
def VS (H:Hm) (nx:Nat) (e z:Nat) (s:CV) (ys:List CV) (m:Nat):Option XR:=match s with
 | .ns=>bif Nat.beq m 0 then some (.w (.p (.c .ns)) H nx) else qC H nx (some (.c ys e)) fun K=>some (.w (.p (.c (.su nx 0 z m))) K (nx+1))
 | .sl b o n c=>bif Nat.beq m 0 then some (.w (.p (.c (.sl b o n c))) H nx) else bif Nat.ble (Nat.add n m) 10000000 then
   (bif Nat.ble (Nat.add n m) c then (match H.get b with
    | some (.c cs t)=>match JE (Nat.add o (Nat.mul n z)) ys cs with
      | some ds=>qC H b (some (.c ds t)) fun K=>fN (Nat.add n m) fun n=>some (.w (.p (.c (.sl b o n c))) K nx)
      | none=>none
    | _=>none) else (match lY H z (.sl b o n c) with
    | some xs=>fN (Nat.add n m) fun n=>qC H nx (some (.c (app xs ys) e)) fun K=>some (.w (.p (.c (.su nx 0 z n))) K (nx+1))
    | none=>none)) else none
 | .su b 0 z0 n=>bif Nat.beq z z0&&Nat.ble (Nat.add n m) 10000000 then (bif Nat.beq m 0 then some (.w (.p (.c (.su b 0 z0 n))) H nx) else match H.get b with
  | some (.c cs t)=>bif Nat.beq t e then (match takeC (Nat.mul n z) cs with
    | some xs=>qC H b none fun K=>fN (Nat.add n m) fun n=>qC K nx (some (.c (app xs ys) e)) fun K=>some (.w (.p (.c (.su nx 0 z n))) K (nx+1))
    | none=>none) else none
  | _=>none) else none
 | _=>none
def ZB (P:Program) (T:Tm) (H:Hm) (nx:Nat):Op→Option XR
 | .mapUpdate t m k x=>match P.underlying t,opC T m,opC T k,Rk T x with
   | some (.map kt _),some (.m b),some key,some v=>match tC P kt key,H.get b with
     | true,some (.m ck l)=>match Hq key l 0 with
       | some none=>fN (Nat.add ck 1) fun c=>qC H b (some (.m c (app l [(key,v,ck)]))) fun K=>some (.w (.p (.c .un)) K nx)
       | some (some (i,_))=>qC H b (some (.m ck (XI key v i l))) fun K=>some (.w (.p (.c .un)) K nx)
       | none=>none
     | _,_=>none
   | _,_,_,_=>none
 | .next it true=>match opC T it with
   | some (.p b 0)=>match H.get b with
     | some (.it s p)=>match nth s p with
       | some c=>bif Nat.blt c 128 then fN (Nat.add p 1) fun q=>qC H b (some (.it s q)) fun K=>some (.w (.t [.c (.b true),.c (.i .i64 (.ofNat p)),.c (.i .i32 (.ofNat c))]) K nx) else none
       | none=>some (.w (.t [.c (.b false)]) H nx)
     | _=>none
   | _=>none
 | .next it false=>match opC T it with
   | some (.p b 0)=>match H.get b with
     | some (.mi q)=>match H.get q with
       | some (.m _ [])=>some (.w (.t [.c (.b false)]) H nx)
       | _=>none
     | _=>none
   | _=>none
 | .range t x=>match P.underlying t,opC T x with
   | some (.map _ _),some (.m q)=>match H.get q with
     | some (.m _ _)=>qC H nx (some (.mi q)) fun K=>fN (Nat.add nx 1) fun ny=>some (.w (.p (.c (.p nx 0))) K ny)
     | _=>none
   | _,_=>none
 | _=>none
def KF (P:Program) (T:Tm) (H:Hm) (nx:Nat):Op→Option XR
 | .store t a x=>match opC T a,Rk T x,bU P t with
   | some (.p b o),some v,some n=>bif Nat.beq v.cells.length n&&rq v.cells then (match H.get b with
     | some (.c cs ty)=>match JE o v.cells cs with
       | some ds=>qC H b (some (.c ds ty)) fun K=>some (.w (.p (.c .un)) K nx)
       | none=>none
     | _=>none) else none
   | _,_,_=>none
 | .call { callee:=.value f,args,.. }=>match opC T f,Nv T args.toList with
   | some (.f f l),some xs=>some (.call f (xs++l.map fun x=>.p (.c (.p x.1 x.2))))
   | _,_=>none
 | .call { callee:=.builtin .append,args,argTypes }=>match args.toList,argTypes.toList with
   | [s,x],[t,u]=>match opC T s,opC T x,P.underlying t with
     | some a,some y,some (.slice e)=>match P.info? e with
       | some i=>bif Nat.blt 0 i.size&&Nat.ble i.bytes 1000000 then (match i.zero with
         | some z=>bif Nat.beq z.cells.size i.size then (match Zd P H i.size u y with
           | some (ys,m)=>bif rq ys&&Nat.ble m 1000000 then VS H nx e i.size a ys m else none
           | none=>none) else none
         | none=>none) else none
       | none=>none
     | _,_,_=>none
   | _,_=>none
 | .call { callee:=.builtin .unsafeString,args,argTypes }=>match args.toList,argTypes.toList with
   | [x,y],[pt,_]=>match opC T x,opC T y,P.underlying pt with
     | some .np,some (.i .i64 (.ofNat 0)),_=>some (.w (.p (.c (.s []))) H nx)
     | some (.p _ _),some (.i .i64 (.ofNat 0)),_=>some (.w (.p (.c (.s []))) H nx)
     | some (.p b 0),some (.i .i64 (.ofNat n)),some (.pointer e)=>match H.get b with
       | some (.c cs t)=>bif Nat.beq t e&&(Nat.beq (P.cellsOf e) 1&&Nat.ble n 1000000) then (match takeC n cs with
         | some xs=>match bytesOf xs with
           | some l=>qC H b none fun K=>some (.w (.p (.c (.s l))) K nx)
           | none=>none
         | none=>none) else none
       | _=>none
     | _,_,_=>none
   | _,_=>none
 | _=>none
def Zn (P:Program) (T:Tm) (H:Hm) (nx:Nat) (op:Op):Option XR:=match ZB P T H nx op with
 | some r=>some r
 | none=>KF P T H nx op
end Go.Proofs.YtgpanefhaiohnaaGreatDoor
namespace Go.Proofs.YtgpanefhaiohnaaGreatDoor
open Go.RowKit
theorem iL.get_put {α:Type} (x:Option α):∀ (f k:Nat) (t:iL α) (j:Nat),t.put x f k≠.nil→(t.put x f k).get j=if j=k then x else t.get j:=by
 intro f
 induction f with
 | zero=>intro k t j h;exact absurd rfl h
 | succ f ih=>
   have key:∀ (v:Option α) (l r:iL α) (k j:Nat),(bif Nat.beq (Nat.mod k 2) 0 then iL.Vb v r (iL.put x f (Nat.div k 2) l) else iL.Vd v l (iL.put x f (Nat.div k 2) r))≠.nil→
    (bif Nat.beq (Nat.mod k 2) 0 then iL.Vb v r (iL.put x f (Nat.div k 2) l) else iL.Vd v l (iL.put x f (Nat.div k 2) r)).get j=if j=k+1 then x else (iL.nd v l r).get j:=by
    intro v l r k j h
    cases hk:Nat.beq (Nat.mod k 2) 0 with
    | true=>
      have hk0:k % 2=0:=Nat.eq_of_beq_eq_true hk
      rw[hk] at h
      simp only[cond_true] at h⊢
      have i:=ih (Nat.div k 2) l
      cases hp:iL.put x f (Nat.div k 2) l with
      | nil=>rw[hp] at h;exact absurd rfl h
      | nd a b c=>
        rw[hp] at i
        simp only[iL.Vb]
        cases j with
        | zero=>rfl
        | succ j=>
          simp only[iL.get]
          cases hj:Nat.beq (Nat.mod j 2) 0 with
          | true=>
            have hj0:j % 2=0:=Nat.eq_of_beq_eq_true hj
            simp only[cond_true]
            rw[i _ (by simp)]
            by_cases e:j=k
            · subst e;simp
            · rw[if_neg (fun h=>e (by have:j / 2=k / 2:=h;omega)),if_neg (by omega)]
          | false=>
            simp only[cond_false]
            rw [if_neg (fun e => by have:j=k:=by omega
                                    subst this;rw[hk] at hj;cases hj)]
    | false=>
      have hk0:k % 2=1:=by
       have:¬ k % 2=0:=fun e=>by rw[show Nat.mod k 2=0 from e] at hk;cases hk
       omega
      rw[hk] at h
      simp only[cond_false] at h⊢
      have i:=ih (Nat.div k 2) r
      cases hp:iL.put x f (Nat.div k 2) r with
      | nil=>rw[hp] at h;exact absurd rfl h
      | nd a b c=>
        rw[hp] at i
        simp only[iL.Vd]
        cases j with
        | zero=>rfl
        | succ j=>
          simp only[iL.get]
          cases hj:Nat.beq (Nat.mod j 2) 0 with
          | true=>
            simp only[cond_true]
            rw [if_neg (fun e => by have:j=k:=by omega
                                    subst this;rw[hk] at hj;cases hj)]
          | false=>
            have hj0:j % 2=1:=by
             have:¬ j % 2=0:=fun e=>by rw[show Nat.mod j 2=0 from e] at hj;cases hj
             omega
            simp only[cond_false]
            rw[i _ (by simp)]
            by_cases e:j=k
            · subst e;simp
            · rw[if_neg (fun h=>e (by have:j / 2=k / 2:=h;omega)),if_neg (by omega)]
   intro k t j h
   cases k with
   | zero=>
     cases t with
     | nil=>cases j<;>simp[iL.put,iL.get]
     | nd v l r=>cases j<;>simp[iL.put,iL.get]
   | succ k=>
     cases t with
     | nil=>
       have:=key none .nil .nil k j h
       rw[iL.put,this]
       split
       · rfl
       · cases j with
         | zero=>rfl
         | succ j=>simp only[iL.get];cases Nat.beq (Nat.mod j 2) 0<;>rfl
     | nd v l r=>exact key v l r k j h
theorem l7 {α:Type}:∀ (l:List α) (n:Nat),nth l n=l[n]?
 | [],_=>by simp[nth]
 | _::_,0=>rfl
 | _::l,n+1=>by rw[nth,l7 l n];rfl
theorem sG {α:Type}:∀ (n:Nat) (l:List α),BG n l=l.drop n
 | 0,_=>rfl
 | _+1,[]=>rfl
 | n+1,_::l=>by rw[BG,sG n l];rfl
theorem dH {α:Type} {x:α} {o:Option (List α)} {r:List α}:ku x o=some r↔∃ l,o=some l∧r=x::l:=by
 cases o with
 | none=>simp[ku]
 | some l=>simp[ku,eq_comm]
theorem jD {α:Type}:∀ {n:Nat} {l r:List α},takeC n l=some r→n≤l.length∧r=l.take n
 | 0,l,r,h=>by cases h;exact⟨Nat.zero_le _,rfl⟩
 | n+1,[],r,h=>by cases h
 | n+1,x::l,r,h=>by
   rw[takeC,dH] at h
   obtain⟨k,hk,rfl⟩:=h
   obtain⟨h1,rfl⟩:=jD hk
   exact⟨by simp;exact h1,rfl⟩
theorem lX {α:Type}:∀ (k l:List α),app k l=k++l
 | [],_=>rfl
 | x::k,l=>by
   rw[app,lX k l]
   cases h:k++l with
   | nil=>simp[h]
   | cons y r=>simp[h]
theorem Dz {α:Type}:∀ {k l r:List α},over k l=some r→k.length≤l.length∧r=k++l.drop k.length
 | [],l,r,h=>by cases h;exact⟨Nat.zero_le _,rfl⟩
 | _::_,[],r,h=>by cases h
 | x::k,y::l,r,h=>by
   rw[over,dH] at h
   obtain⟨m,hm,rfl⟩:=h
   obtain⟨h1,rfl⟩:=Dz hm
   exact⟨by simp;exact h1,rfl⟩
theorem mZ {α:Type}:∀ {n:Nat} {k l r:List α},JE n k l=some r→n+k.length≤l.length∧r=l.take n++k++l.drop (n+k.length)
 | 0,k,l,r,h=>by
   obtain⟨h1,rfl⟩:=Dz (k:=k) (l:=l) h
   exact⟨by omega,by simp⟩
 | n+1,k,[],r,h=>by cases h
 | n+1,k,x::l,r,h=>by
   rw[JE,dH] at h
   obtain⟨m,hm,rfl⟩:=h
   obtain⟨h1,rfl⟩:=mZ hm
   refine⟨by simp;omega,?_⟩
   rw[show n+1+k.length=n+k.length+1 by omega]
   simp
structure Sg where
 r:Nat→Option (Nat×Nat)
 v:Nat→Value
inductive Bc (σ:Sg):List (Nat×Nat)→List Value→Prop
 | nil:Bc σ [] []
 | cons {p:Nat×Nat} {x:Value} {l k}:(∃ r,σ.r p.1=some r∧x=.pointer (some ⟨r.1,p.2,none⟩))→Bc σ l k→Bc σ (p::l) (x::k)
def CV.is (σ:Sg):CV→Value→Prop
 | .i k n,x=>x=.int k n
 | .b q,x=>x=.bool q
 | .s l,x=>x=.string (B (l.map UInt8.ofNat))
 | .p g o,x=>∃ r,σ.r g=some r∧x=.pointer (some ⟨r.1,o,none⟩)
 | .np,x=>x=.pointer none
 | .sl g o n c,x=>n≤c∧∃ r,σ.r g=some r∧x=.slice (some ⟨r.1,o,none⟩) n c
 | .su g e z n,x=>∃ r c,σ.r g=some r∧r.2=c*z∧e+n≤c∧c≤maxLen∧x=.slice (some ⟨r.1,e*z,none⟩) n (c - e)
 | .ns,x=>x=.slice none 0 0
 | .m g,x=>∃ r,σ.r g=some r∧x=.map (some r.1)
 | .nm,x=>x=.map none
 | .f g l,x=>∃ k,Bc σ l k∧x=.func (.func g) #[] k.toArray
 | .nf,x=>x=.nilFunc
 | .v n,x=>x=σ.v n∧(σ.v n).oneCell'=true
 | .ni,x=>x=.nilIface
 | .un,x=>x=undef
inductive l9 (σ:Sg):List CV→List Value→Prop
 | nil:l9 σ [] []
 | cons {c x l k}:CV.is σ c x→l9 σ l k→l9 σ (c::l) (x::k)
def PV.is (σ:Sg):PV→Value→Prop
 | .c q,x=>q.is σ x
 | .a l,x=>∃ k,l9 σ l k∧x=.agg k.toArray
inductive VM (σ:Sg):List PV→List Value→Prop
 | nil:VM σ [] []
 | cons {c x l k}:PV.is σ c x→VM σ l k→VM σ (c::l) (x::k)
def EV.is (σ:Sg):EV→Value→Prop
 | .p q,x=>q.is σ x
 | .t l,x=>∃ k,VM σ l k∧x=.tuple k.toArray
structure Sg.Le (σ τ:Sg):Prop where
 r:∀ b x,σ.r b=some x→τ.r b=some x
 v:τ.v=σ.v
theorem Sg.Le.refl (σ:Sg):σ.Le σ:=⟨fun _ _ h=>h,rfl⟩
theorem Sg.Le.trans {σ τ υ:Sg} (a:σ.Le τ) (b:τ.Le υ):σ.Le υ:=⟨fun x y h=>b.r x y (a.r x y h),b.v.trans a.v⟩
section
variable {σ τ:Sg}
theorem WG (h:σ.Le τ) {l:List (Nat×Nat)} {k:List Value} (hk:Bc σ l k):Bc τ l k:=by
 induction hk with
 | nil=>exact .nil
 | cons h1 _ ih=>obtain⟨r,h1,h2⟩:=h1;exact .cons ⟨r,h.r _ _ h1,h2⟩ ih
theorem CV.oJ (h:σ.Le τ) {q:CV} {x:Value} (hc:q.is σ x):q.is τ x:=by
 cases q<;>simp only[CV.is] at hc⊢
 case p=>obtain⟨r,h1,h2⟩:=hc;exact⟨r,h.r _ _ h1,h2⟩
 case sl=>obtain⟨h0,r,h1,h2⟩:=hc;exact⟨h0,r,h.r _ _ h1,h2⟩
 case su=>obtain⟨r,c,h1,h2⟩:=hc;exact⟨r,c,h.r _ _ h1,h2⟩
 case m=>obtain⟨r,h1,h2⟩:=hc;exact⟨r,h.r _ _ h1,h2⟩
 case f=>obtain⟨k,h1,h2⟩:=hc;exact⟨k,WG h h1,h2⟩
 case v=>rw[h.v];exact hc
 all_goals exact hc
theorem yQ (h:σ.Le τ) {l:List CV} {k:List Value} (hk:l9 σ l k):l9 τ l k:=by
 induction hk with
 | nil=>exact .nil
 | cons h1 _ ih=>exact .cons (CV.oJ h h1) ih
theorem PV.oJ (h:σ.Le τ) {q:PV} {x:Value} (hc:q.is σ x):q.is τ x:=by
 cases q with
 | c q=>exact CV.oJ (q:=q) h hc
 | a l=>obtain⟨k,h1,h2⟩:=hc;exact⟨k,yQ h h1,h2⟩
theorem YO (h:σ.Le τ) {l:List PV} {k:List Value} (hk:VM σ l k):VM τ l k:=by
 induction hk with
 | nil=>exact .nil
 | cons h1 _ ih=>exact .cons (PV.oJ h h1) ih
theorem EV.oJ (h:σ.Le τ) {q:EV} {x:Value} (hc:q.is σ x):q.is τ x:=by
 cases q with
 | p q=>exact PV.oJ (q:=q) h hc
 | t l=>obtain⟨k,h1,h2⟩:=hc;exact⟨k,YO h h1,h2⟩
theorem iR {l:List CV} {k:List Value} (hk:l9 σ l k):l.length=k.length:=by
 induction hk with
 | nil=>rfl
 | cons _ _ ih=>simp[ih]
theorem sV {l:List CV} {k:List Value} (n:Nat) (hk:l9 σ l k):l9 σ (l.drop n) (k.drop n):=by
 induction hk generalizing n with
 | nil=>simp only[List.drop_nil];exact .nil
 | cons h1 h2 ih=>
   cases n with
   | zero=>exact .cons h1 h2
   | succ n=>exact ih n
theorem mJ {l:List CV} {k:List Value} (n:Nat) (hk:l9 σ l k):l9 σ (l.take n) (k.take n):=by
 induction hk generalizing n with
 | nil=>simp only[List.take_nil];exact .nil
 | cons h1 h2 ih=>
   cases n with
   | zero=>simp only[List.take_zero];exact .nil
   | succ n=>exact .cons h1 (ih n)
theorem kE {l m:List CV} {k j:List Value} (hk:l9 σ l k) (hm:l9 σ m j):l9 σ (l++m) (k++j):=by
 induction hk with
 | nil=>exact hm
 | cons h1 _ ih=>exact .cons h1 ih
theorem EN {l:List CV} {k:List Value} {n:Nat} {c:CV} (hk:l9 σ l k) (e:l[n]? = some c):∃ x,k[n]? = some x∧c.is σ x:=by
 induction hk generalizing n with
 | nil=>simp at e
 | cons h1 h2 ih=>
   cases n with
   | zero=>simp at e;subst e;exact⟨_,rfl,h1⟩
   | succ n=>simpa using ih (n:=n) (by simpa using e)
theorem WI {l:List PV} {k:List Value} {n:Nat} {c:PV} (hk:VM σ l k) (e:l[n]? = some c):∃ x,k[n]? = some x∧c.is σ x:=by
 induction hk generalizing n with
 | nil=>simp at e
 | cons h1 h2 ih=>
   cases n with
   | zero=>simp at e;subst e;exact⟨_,rfl,h1⟩
   | succ n=>simpa using ih (n:=n) (by simpa using e)
theorem Sz {c:CV} {x:Value} (h:c.is σ x) (hu:c≠.un):x.oneCell'=true:=by
 cases c<;>simp only[CV.is] at h
 case p=>obtain⟨r,_,rfl⟩:=h;rfl
 case sl=>obtain⟨_,r,_,rfl⟩:=h;rfl
 case su=>obtain⟨r,c,_,_,_,_,rfl⟩:=h;rfl
 case m=>obtain⟨r,_,rfl⟩:=h;rfl
 case f=>obtain⟨k,_,rfl⟩:=h;rfl
 case v=>rw[h.1];exact h.2
 case un=>exact absurd rfl hu
 all_goals (rw[h];rfl)
theorem Sv {c:CV} {x:Value} (h:c.is σ x):x.cells=#[x]:=by
 by_cases hu:c=.un
 · subst hu;cases h;rfl
 · have:=Sz h hu
   cases x<;>first | rfl | cases this
theorem PV.x8 {q:PV} {x:Value} (h:q.is σ x):∃ k,l9 σ q.cells k∧x.cells=k.toArray:=by
 cases q with
 | c q=>exact⟨[x],.cons h .nil,Sv (c:=q) h⟩
 | a l=>obtain⟨k,h1,rfl⟩:=h;exact⟨k,h1,rfl⟩
theorem IX {l:List CV} {k:List Value} (hk:l9 σ l k) (hn:rq l=true):∀ u∈k,u.oneCell'=true:=by
 induction hk with
 | nil=>intro u hu;cases hu
 | @cons c x l k h1 h2 ih=>
   have hc:c≠.un:=fun e=>by subst e;cases hn
   have hl:rq l=true:=by cases c<;>first | exact hn | exact absurd rfl hc
   intro u hu
   rcases List.mem_cons.1 hu with rfl | hu
   · exact Sz h1 hc
   · exact ih hl u hu
theorem NR {v:Value} {c:CV} (h:PN v=some c):c.is σ v:=by
 unfold PN at h
 split at h
 case h_3 s=>
  cases h
  show Value.string s=.string (B _)
  rw[List.map_map,show (UInt8.ofNat∘UInt8.toNat:UInt8→UInt8)=id from funext fun c=>by simp,List.map_id,← pg]
 case h_4=>cases h;rfl
 case h_9=>cases h;rfl
 case h_10=>cases h
 all_goals (cases h;rfl)
theorem ER:∀ {l:List Value} {r:List CV},IJ PN l=some r→l9 σ r l
 | [],r,h=>by cases h;exact .nil
 | x::l,r,h=>by
   rw[IJ] at h
   split at h
   · cases h
   · rename_i y hy
     rw[dH] at h
     obtain⟨m,hm,rfl⟩:=h
     exact .cons (NR hy) (ER hm)
theorem OW {v:Value} {c:PV} (h:Xn v=some c):c.is σ v:=by
 unfold Xn at h
 split at h
 · simp only[Option.map_eq_some_iff] at h
   obtain⟨r,hr,rfl⟩:=h
   exact⟨_,ER hr,by simp⟩
 · simp only[Option.map_eq_some_iff] at h
   obtain⟨r,hr,rfl⟩:=h
   exact NR hr
structure mf (σ:Sg) (N:Nat) (T:Tm) (t:Array Value):Prop where
 size:t.size=N
 get:∀ i e,T.get i=some e→e.is σ (t.getD i undef)
theorem mf.le (h:σ.Le τ) {N:Nat} {T:Tm} {t:Array Value} (H:mf σ N T t):mf τ N T t:=⟨H.size,fun i e he=>EV.oJ h (H.get i e he)⟩
theorem mf.put {N d:Nat} {T:Tm} {t:Array Value} (H:mf σ N T t) (hd:d<N) {e:EV} {v:Value} (he:e.is σ v) (hn:T.put (some e) nD d≠.nil):mf σ N (T.put (some e) nD d) (t.setIfInBounds d v):=by
 refine⟨by simp[H.size],fun i f hf=>?_⟩
 rw[iL.get_put _ _ _ _ _ hn] at hf
 split at hf
 · rename_i hi
   subst hi
   cases hf
   have:i<t.size:=by rw[H.size];exact hd
   simpa[Array.getD,this] using he
 · rename_i hi
   have:=H.get i f hf
   rw[show (t.setIfInBounds d v).getD i undef=t.getD i undef from ?_]
   · exact this
   · rw[Array.getD_eq_getD_getElem?,Array.getD_eq_getD_getElem?,Array.getElem?_setIfInBounds_ne (by omega)]
section
variable {N:Nat} {T:Tm} {a:Act}
theorem oU (H:mf σ N T a.tmps) {x:Operand} {e:EV} (h:Uj T x=some e):e.is σ (a.eval x):=by
 cases x with
 | tmp t=>exact H.get t e h
 | const v=>
   simp only[Uj,Option.map_eq_some_iff] at h
   obtain⟨c,hc,rfl⟩:=h
   exact OW (c:=c) hc
 | func f=>cases h;exact⟨[],.nil,rfl⟩
 | global g=>cases h
theorem kX (H:mf σ N T a.tmps) {x:Operand} {e:PV} (h:Rk T x=some e):e.is σ (a.eval x):=by
 unfold Rk at h
 split at h
 · rename_i v hv
   cases h
   exact oU H hv
 · cases h
theorem bV (H:mf σ N T a.tmps) {x:Operand} {e:CV} (h:opC T x=some e):e.is σ (a.eval x):=by
 unfold opC at h
 split at h
 · rename_i v hv
   cases h
   exact oU H hv
 · cases h
end
variable {P:Program} {w:World}
theorem XU {c:CV} {x:CE} {v:Value} (h:c.ce=some x) (hv:c.is σ v):v=x.den C0 aP:=by
 cases c<;>simp only[CV.ce] at h<;>cases h<;>exact hv
theorem RX:∀ {l:List CV} {r:List CE} {k:List Value},IJ CV.ce l=some r→l9 σ l k→k=r.map (CE.den C0 aP)
 | [],r,[],h,_=>by cases h;rfl
 | c::l,r,x::k,h,.cons h1 h2=>by
   rw[IJ] at h
   split at h
   · cases h
   · rename_i y hy
     rw[dH] at h
     obtain⟨m,hm,rfl⟩:=h
     rw[List.map_cons,← XU hy h1,← RX hm h2]
theorem Uw {c:PV} {x:PE} {v:Value} (h:c.pe=some x) (hv:c.is σ v):v=x.den C0 aP:=by
 cases c with
 | c c=>
   simp only[PV.pe,Option.map_eq_some_iff] at h
   obtain⟨r,hr,rfl⟩:=h
   exact XU hr hv
 | a l=>
   simp only[PV.pe,Option.map_eq_some_iff] at h
   obtain⟨r,hr,rfl⟩:=h
   obtain⟨k,h1,rfl⟩:=hv
   rw[RX hr h1];rfl
theorem xB {x:Option (BE×PE)} {e:EV} (h:DV x=some e):∃ c v,x=some (c,v)∧c.den C0=true∧e.is σ (v.den C0 aP):=by
 unfold DV at h
 split at h
 · split at h
   · rename_i hc
     rw[SX] at h
     cases h
     exact⟨_,_,rfl,hc,rfl⟩
   · cases h
 · split at h
   · rename_i hc
     rw[ZC] at h
     cases h
     exact⟨_,_,rfl,hc,rfl⟩
   · cases h
 · cases h
theorem jB (op:BinOp) (t:TypeId) (x y:Operand) {a b:Option Addr} {n c m d:Nat}:(eqGuard op t x y (.slice a n c) (.slice b m d)).run P w=.ok () w:=by
 unfold eqGuard;cases op<;>rfl
theorem kH {t e:TypeId} (hu:P.underlying t=some (.slice e)) {a:Option Addr} {n c:Nat}:(Op.equal t (.slice a n c) (.slice none 0 0)).run P w=.ok a.isNone w:=by
 unfold Op.equal Op.maxDepth
 rw[show (10000:Nat)=9999+1 from rfl,Op.equalIn,Sem.run_bind,run_underlying hu]
 cases a<;>rfl
theorem RQ {op:BinOp} {t:TypeId} {x y:PV} {e:EV} {u v:Value} (xo yo:Operand) (h:YA P op t x y=some e) (hx:x.is σ u) (hy:y.is σ v):
 ∃ r,e.is σ r∧(eqGuard op t xo yo u v).run P w=.ok () w∧(binOp op t u v).run P w=.ok r w:=by
 unfold YA at h
 split at h
 · rename_i a b
   cases hx;cases hy
   split at h
   · rename_i hop
     cases hle:Nat.ble (a.length+b.length) 1000000 with
     | false=>rw[hle] at h;cases h
     | true=>
       rw[hle] at h
       have hle':a.length+b.length≤1000000:=Nat.le_of_ble_eq_true hle
       have he:e=.p (.c (.s (a++b))):=by
        simp only[cond_true,lX] at h
        split at h<;>rename_i hq<;>rw[hq]<;>exact (Option.some.inj h).symm
       subst he
       refine⟨_,rfl,kS _ _ _ _ _ _,?_⟩
       have:=DX (P:=P) (a.map UInt8.ofNat) (b.map UInt8.ofNat) (by simp;omega) w
       rw[List.map_append]
       exact this
   · rename_i hop
     obtain⟨c,v,h1,h2,h3⟩:=xB (σ:=σ) h
     exact⟨_,h3,kS _ _ _ _ _ _,wU (C:=C0) (a:=.c a) (b:=.c b) h1 h2⟩
 · obtain⟨r,hr,rfl⟩:=hx;cases hy
   split at h
   · rename_i T hu
     cases h
     refine⟨_,rfl,jA _ _ _ _ _ _,?_⟩
     show (do pure (Value.bool (← Op.equal t _ _)):Sem Value).run P w=_
     rw[Sem.run_bind,kG hu];rfl
   · rename_i T hu
     cases h
     refine⟨_,rfl,jA _ _ _ _ _ _,?_⟩
     show (do pure (Value.bool (!(← Op.equal t _ _))):Sem Value).run P w=_
     rw[Sem.run_bind,kG hu];rfl
   · cases h
 · cases hx;cases hy
   split at h
   · rename_i T hu
     cases h
     refine⟨_,rfl,jA _ _ _ _ _ _,?_⟩
     show (do pure (Value.bool (← Op.equal t _ _)):Sem Value).run P w=_
     rw[Sem.run_bind,kG hu];rfl
   · rename_i T hu
     cases h
     refine⟨_,rfl,jA _ _ _ _ _ _,?_⟩
     show (do pure (Value.bool (!(← Op.equal t _ _))):Sem Value).run P w=_
     rw[Sem.run_bind,kG hu];rfl
   · cases h
 · obtain⟨_,r,hr,rfl⟩:=hx;cases hy
   split at h
   · rename_i T hu
     cases h
     refine⟨_,rfl,jB _ _ _ _,?_⟩
     show (do pure (Value.bool (← Op.equal t _ _)):Sem Value).run P w=_
     rw[Sem.run_bind,kH hu];rfl
   · rename_i T hu
     cases h
     refine⟨_,rfl,jB _ _ _ _,?_⟩
     show (do pure (Value.bool (!(← Op.equal t _ _))):Sem Value).run P w=_
     rw[Sem.run_bind,kH hu];rfl
   · cases h
 · obtain⟨r,c,hr,_,_,_,rfl⟩:=hx;cases hy
   split at h
   · rename_i T hu
     cases h
     refine⟨_,rfl,jB _ _ _ _,?_⟩
     show (do pure (Value.bool (← Op.equal t _ _)):Sem Value).run P w=_
     rw[Sem.run_bind,kH hu];rfl
   · rename_i T hu
     cases h
     refine⟨_,rfl,jB _ _ _ _,?_⟩
     show (do pure (Value.bool (!(← Op.equal t _ _))):Sem Value).run P w=_
     rw[Sem.run_bind,kH hu];rfl
   · cases h
 · cases hx;cases hy
   split at h
   · rename_i T hu
     cases h
     refine⟨_,rfl,jB _ _ _ _,?_⟩
     show (do pure (Value.bool (← Op.equal t _ _)):Sem Value).run P w=_
     rw[Sem.run_bind,kH hu];rfl
   · rename_i T hu
     cases h
     refine⟨_,rfl,jB _ _ _ _,?_⟩
     show (do pure (Value.bool (!(← Op.equal t _ _))):Sem Value).run P w=_
     rw[Sem.run_bind,kH hu];rfl
   · cases h
 · split at h
   · rename_i a b ha hb
     obtain⟨c,r,h1,h2,h3⟩:=xB (σ:=σ) h
     have:=xW (ρ:=aP) (w:=w) (x:=xo) (y:=yo) h1 h2
     rw[← Uw ha hx,← Uw hb hy] at this
     exact⟨_,h3,this.1,this.2⟩
   · cases h
theorem XG {op:UnOp} {x:PV} {e:EV} {u:Value} (h:unV op x=some e) (hx:x.is σ u):∃ r,e.is σ r∧(Op.unary op u).run P w=.ok r w:=by
 unfold unV at h
 split at h
 · rename_i a ha
   obtain⟨c,r,h1,h2,h3⟩:=xB (σ:=σ) h
   have:=D7 (P:=P) (ρ:=aP) (w:=w) h1 h2
   rw[← Uw ha hx] at this
   exact⟨_,h3,this⟩
 · cases h
theorem PK {s d:TypeId} {x:PV} {e:EV} {u:Value} (h:RZ P s d x=some e) (hx:x.is σ u):∃ r,e.is σ r∧(convert s d u).run P w=.ok r w:=by
 unfold RZ at h
 split at h
 · rename_i l
   cases hx
   split at h
   · rename_i h1 h2
     cases h
     have:=oC (C:=C0) (ρ:=aP) (w:=w) (P:=P) (s:=s) (d:=d) (p:=.one (.s (.c l))) (c:=.c true) (v:=.one (.s (.c l))) (by unfold GI;simp only[h1,h2])
     exact⟨_,rfl,this⟩
   · cases h
 · rename_i k n
   cases hx
   obtain⟨c,r,h1,h2,h3⟩:=xB (σ:=σ) h
   exact⟨_,h3,oC (C:=C0) (ρ:=aP) (w:=w) h1⟩
 · cases h
theorem DF {t:TypeId} {l:List CV} {off:Nat} {e:EV} {k:List Value} (h:OT P t l off=some e) (hl:l9 σ l k):∃ r,e.is σ r∧(part t k.toArray off).run P w=.ok r w:=by
 unfold OT at h
 split at h
 · rename_i d n hd hn
   unfold part
   rw[Sem.run_bind,ja t hd,Result.andThen_ok]
   split at h
   · rename_i hagg
     split at h
     · rename_i r hr
       cases h
       rw[sG] at hr
       obtain⟨hle,rfl⟩:=jD hr
       rw[if_pos hagg,Sem.run_bind,bf hn,Result.andThen_ok]
       refine⟨_,⟨_,mJ n (sV off hl),rfl⟩,?_⟩
       simp
     · cases h
   · rename_i hagg
     split at h
     · rename_i x hx
       cases h
       rw[l7] at hx
       obtain⟨v,hv,hc⟩:=EN hl hx
       rw[if_neg (by rw[hagg];decide)]
       refine⟨v,hc,?_⟩
       simp[hv]
     · cases h
 · cases h
theorem nG {n:Int} {len k:Nat} (h:idxOf n len=some k):n=(k:Int)∧k<len:=by
 unfold idxOf at h
 split at h
 · rename_i m
   cases hb:Nat.blt m len with
   | false=>rw[hb] at h;cases h
   | true=>rw[hb] at h;cases h;exact⟨rfl,by simpa using hb⟩
 · cases h
end
end Go.Proofs.YtgpanefhaiohnaaGreatDoor
namespace Go.Proofs.YtgpanefhaiohnaaGreatDoor
open Go.RowKit
section
variable {σ τ:Sg} {P:Program} {w:World}
theorem Ru {t:TypeId} {x i:CV} {e:EV} {u v:Value} (h:Yy P t x i=some e) (hx:x.is σ u) (hi:i.is σ v):∃ r,e.is σ r∧(Instr.indexAt t u v).run P w=.ok r w:=by
 unfold Yy at h
 split at h
 · rename_i k n
   cases hi
   split at h
   · rename_i e b o len c hu
     obtain⟨_,r,hr,rfl⟩:=hx
     split at h
     · rename_i z j hz hj
       obtain⟨rfl,hlt⟩:=nG hj
       rw[fE] at h;cases h
       refine⟨_,⟨r,hr,rfl⟩,?_⟩
       unfold Instr.indexAt
       have h1:(0:Int)≤j:=by omega
       have h2:(j:Int)<(len:Nat):=by omega
       simp only[asIntOf,Sem.run_bind,Sem.run_pure,Result.andThen_ok,run_underlying hu,h1,h2,and_self,if_true,bf hz,addr_add,Int.toNat_natCast]
       rfl
     · cases h
   · rename_i e b e0 z0 len hu
     obtain⟨r,c,hr,_,_,_,rfl⟩:=hx
     split at h
     · rename_i z j hz hj
       obtain⟨rfl,hlt⟩:=nG hj
       cases hzz:Nat.beq z z0 with
       | false=>rw[hzz] at h;cases h
       | true=>
         have:z=z0:=Nat.eq_of_beq_eq_true hzz
         subst this
         rw[hzz,cond_true,fE] at h;cases h
         refine⟨_,⟨r,hr,rfl⟩,?_⟩
         unfold Instr.indexAt
         have h1:(0:Int)≤j:=by omega
         have h2:(j:Int)<(len:Nat):=by omega
         simp only[asIntOf,Sem.run_bind,Sem.run_pure,Result.andThen_ok,run_underlying hu,h1,h2,and_self,if_true,bf hz,addr_add,Int.toNat_natCast]
         rw[show e0*z+j*z=Nat.mul (Nat.add e0 j) z from (Nat.add_mul _ _ _).symm]
     · cases h
   · rename_i len e b o hu
     obtain⟨r,hr,rfl⟩:=hx
     split at h
     · rename_i z j hz hj
       obtain⟨rfl,hlt⟩:=nG hj
       rw[fE] at h;cases h
       refine⟨_,⟨r,hr,rfl⟩,?_⟩
       unfold Instr.indexAt
       have h1:(0:Int)≤j:=by omega
       have h2:(j:Int)<(len:Nat):=by omega
       simp only[asIntOf,Sem.run_bind,Sem.run_pure,Result.andThen_ok,run_underlying hu,Instr.sureAddr,h1,h2,and_self,if_true,bf hz,addr_add,Int.toNat_natCast]
       rfl
     · cases h
   · cases h
 · cases h
def VL (σ:Sg):Option CV→Option Value→Prop
 | none,none=>True
 | some c,some v=>c.is σ v
 | _,_=>False
theorem kN {x:Option CV} {d n:Nat} {v:Option Value} (h:fH x d=some n) (hx:VL σ x v):(v=none∧n=d)∨∃ k,v=some (.int k (n:Nat)):=by
 unfold fH at h
 split at h
 · cases h
   cases v with
   | none=>exact .inl ⟨rfl,rfl⟩
   | some v=>exact hx.elim
 · rename_i k m
   cases h
   cases v with
   | none=>exact hx.elim
   | some v=>cases hx;exact .inr ⟨k,rfl⟩
 · cases h
theorem kP {isS:Bool} {len cap l h m:Nat} {lo hi mx:Option CV} {vl vh vm:Option Value} (hl:VL σ lo vl) (hh:VL σ hi vh) (hm:VL σ mx vm) (h1:fH lo 0=some l) (h2:fH hi len=some h) (h3:fH mx cap=some m)
 (hlh:l≤h) (hhm:h≤m) (hmc:m≤cap) (hmh:(mx.isNone||hi.isSome)=true):(Instr.sliceBounds isS len cap vl vh vm).run P w=.ok (l,h,m) w:=by
 have b:∀ {n y:Nat} {k:IntKind} {code:BoundsCode},n≤y→(Instr.sliceBound (.int k (n:Nat)) y code).run P w=.ok n w:=fun {n y k code} hy=>by
  have:=run_sliceBound (P:=P) w k n y code (by omega) (by omega)
  simpa using this
 unfold Instr.sliceBounds
 rcases kN h3 hm with ⟨rfl,rfl⟩ | ⟨km,rfl⟩
 · rcases kN h2 hh with ⟨rfl,rfl⟩ | ⟨kh,rfl⟩<;>rcases kN h1 hl with ⟨rfl,rfl⟩ | ⟨kl,rfl⟩<;>simp[b,hlh,hhm]
 · rcases kN h2 hh with ⟨rfl,rfl⟩ | ⟨kh,rfl⟩
   · exfalso
     cases mx with
     | none=>exact hm.elim
     | some _=>cases hi with
       | none=>cases hmh
       | some _=>exact hh.elim
   · rcases kN h1 hl with ⟨rfl,rfl⟩ | ⟨kl,rfl⟩<;>simp[b,hlh,hhm,hmc]
theorem Gn {x:Option CV} {d e n:Nat} (h:fH x d=some n):fH x e=some (if x=none then e else n):=by
 unfold fH at h⊢
 split at h
 · rfl
 · cases h;rfl
 · cases h
theorem Nb {t:TypeId} {x:CV} {lo hi mx:Option CV} {e:EV} {u:Value} {vl vh vm:Option Value} (h:Na P t x lo hi mx=some e) (hx:x.is σ u) (hl:VL σ lo vl) (hh:VL σ hi vh) (hm:VL σ mx vm) (hmh:(mx.isNone||hi.isSome)=true):
 ∃ r,e.is σ r∧(Instr.sliceAt t u vl vh vm).run P w=.ok r w:=by
 unfold Na at h
 split at h
 · rename_i l hu
   cases hx
   split at h
   · rename_i a b h1 h2
     cases vm with
     | some _=>exact hm.elim
     | none=>
       cases hc:Nat.ble a b&&Nat.ble b l.length with
       | false=>rw[hc] at h;cases h
       | true=>
         rw[hc,cond_true] at h
         simp only[Bool.and_eq_true,Nat.ble_eq] at hc
         split at h
         · rename_i r hr
           cases h
           rw[sG] at hr
           obtain⟨_,rfl⟩:=jD hr
           refine⟨_,rfl,?_⟩
           unfold Instr.sliceAt Instr.slice
           have:=kP (P:=P) (w:=w) (isS:=false) (len:=l.length) (cap:=l.length) hl hh (show VL σ none none from trivial) h1 h2 rfl hc.1 hc.2 (Nat.le_refl _) rfl
           rw[Sem.run_bind,run_underlying hu,Result.andThen_ok]
           simp only[Sem.run_bind,run_underlying hu,Result.andThen_ok,Option.isSome_none,Bool.false_eq_true,if_false,dJ,List.length_map,this,fO,Sem.run_pure]
           congr 3
           rw[List.map_take,List.map_drop,List.drop_take]
           rfl
         · cases h
   · cases h
 · rename_i el b o n c hu
   obtain⟨hnc,r,hr,rfl⟩:=hx
   split at h
   · rename_i z l hi' m hz h1 h2 h3
     cases hc:Nat.ble l hi'&&(Nat.ble hi' m&&Nat.ble m c) with
     | false=>rw[hc] at h;cases h
     | true=>
       rw[hc,cond_true] at h
       simp only[Bool.and_eq_true,Nat.ble_eq] at hc
       have hb:=kP (P:=P) (w:=w) (isS:=true) (len:=n) (cap:=c) hl hh hm h1 h2 h3 hc.1 hc.2.1 hc.2.2 hmh
       have key:(Instr.sliceAt t (.slice (some ⟨r.1,o,none⟩) n c) vl vh vm).run P w=.ok (.slice (if m=l then some ⟨r.1,o,none⟩ else some ⟨r.1,o+l*z,none⟩) (hi' - l) (m - l)) w:=by
        unfold Instr.sliceAt Instr.slice
        rw[Sem.run_bind,run_underlying hu,Result.andThen_ok]
        simp only[Sem.run_bind,run_underlying hu,Result.andThen_ok,hb,bf hz,Sem.run_pure,Option.map_some,addr_add]
       cases hml:Nat.beq m l with
       | true=>
         have:m=l:=Nat.eq_of_beq_eq_true hml
         subst this
         rw[hml] at h;cases h
         refine⟨_,⟨Nat.le_refl _,r,hr,rfl⟩,?_⟩
         rw[key,if_pos rfl,Nat.sub_self,show hi' - m=0 by omega]
       | false=>
         have:m≠l:=fun e=>by rw[e,Nat.beq_refl] at hml;cases hml
         rw[hml] at h
         simp only[cond_false,fE] at h;cases h
         refine⟨_,⟨Nat.sub_le_sub_right hc.2.1 _,r,hr,rfl⟩,?_⟩
         rw[key,if_neg this];rfl
   · cases h
 · rename_i el b e0 z0 n hu
   obtain⟨r,c,hr,hrc,hen,hcm,rfl⟩:=hx
   split at h
   · rename_i z l hi' hz h1 h2
     cases hc:Nat.beq z z0&&(Nat.ble l hi'&&Nat.ble hi' n) with
     | false=>rw[hc] at h;cases h
     | true=>
       rw[hc,cond_true] at h
       simp only[Bool.and_eq_true,Nat.ble_eq,Nat.beq_eq] at hc
       obtain⟨rfl,hc1,hc2⟩:=hc
       have key:∀ {m:Nat},fH mx (c - e0)=some m→hi'≤m→m≤c - e0→(Instr.sliceAt t (.slice (some ⟨r.1,e0*z,none⟩) n (c - e0)) vl vh vm).run P w=.ok (.slice (if m=l then some ⟨r.1,e0*z,none⟩ else some ⟨r.1,e0*z+l*z,none⟩) (hi' - l) (m - l)) w:=by
        intro m h3 h4 h5
        have hb:=kP (P:=P) (w:=w) (isS:=true) (len:=n) (cap:=c - e0) hl hh hm h1 h2 h3 hc1 h4 h5 hmh
        unfold Instr.sliceAt Instr.slice
        rw[Sem.run_bind,run_underlying hu,Result.andThen_ok]
        simp only[Sem.run_bind,run_underlying hu,Result.andThen_ok,hb,bf hz,Sem.run_pure,Option.map_some,addr_add]
       split at h
       · cases hq:Nat.beq l 0||Nat.blt l n with
         | false=>rw[hq] at h;cases h
         | true=>
           rw[hq] at h
           simp only[cond_true,fE] at h;cases h
           simp only[Bool.or_eq_true,Nat.beq_eq] at hq
           refine⟨_,⟨r,c,hr,hrc,?_,hcm,rfl⟩,?_⟩
           · show e0+l+(hi' - l)≤c;omega
           · rw[key rfl (by omega) (Nat.le_refl _)]
             have e1:Nat.add e0 l*z=e0*z+l*z:=Nat.add_mul _ _ _
             rw[e1,show c - Nat.add e0 l=c - e0 - l from by show c - (e0+l)=_;omega]
             split
             · rename_i he
               have:l=0:=by
                rcases hq with hq | hq
                · exact hq
                · have:l<n:=by simpa using hq
                  omega
               subst this
               simp
             · rfl
       · rename_i y
         split at h
         · rename_i m hm3
           have h3:=Gn (e:=c - e0) hm3
           rw[if_neg (by simp)] at h3
           cases hq:Nat.ble hi' m&&Nat.ble m n with
           | false=>rw[hq] at h;cases h
           | true=>
             rw[hq,cond_true] at h
             simp only[Bool.and_eq_true,Nat.ble_eq] at hq
             cases hml:Nat.beq m l with
             | true=>
               have:m=l:=Nat.eq_of_beq_eq_true hml
               subst this
               rw[hml] at h
               simp only[cond_true,fE] at h;cases h
               refine⟨_,⟨Nat.le_refl _,r,hr,rfl⟩,?_⟩
               rw[key h3 hq.1 (by omega),if_pos rfl,Nat.sub_self,show hi' - m=0 by omega]
               rfl
             | false=>
               have:m≠l:=fun e=>by rw[e,Nat.beq_refl] at hml;cases hml
               rw[hml] at h
               simp only[cond_false,fE] at h;cases h
               refine⟨_,⟨Nat.sub_le_sub_right hq.1 _,r,hr,rfl⟩,?_⟩
               rw[key h3 hq.1 (by omega),if_neg this]
               rw[show Nat.mul (Nat.add e0 l) z=e0*z+l*z from Nat.add_mul _ _ _];rfl
         · cases h
   · cases h
 · rename_i el hu
   cases hx
   split at h
   · rename_i h1 h2 h3 hzz
     cases h
     have hb:=kP (P:=P) (w:=w) (isS:=true) (len:=0) (cap:=0) hl hh hm h1 h2 h3 (Nat.le_refl _) (Nat.le_refl _) (Nat.le_refl _) hmh
     refine⟨_,rfl,?_⟩
     unfold Instr.sliceAt Instr.slice
     rw[Sem.run_bind,run_underlying hu,Result.andThen_ok]
     simp only[Sem.run_bind,run_underlying hu,Result.andThen_ok,hb]
     obtain⟨z,hz⟩:=Option.isSome_iff_exists.1 hzz
     simp[bf hz]
   · cases h
 · rename_i len el b o hu
   obtain⟨r,hr,rfl⟩:=hx
   split at h
   · rename_i z l hi' hz h1 h2
     cases vm with
     | some _=>exact hm.elim
     | none=>
       cases hc:Nat.ble l hi'&&Nat.ble hi' len with
       | false=>rw[hc] at h;cases h
       | true=>
         rw[hc,cond_true] at h
         simp only[Bool.and_eq_true,Nat.ble_eq] at hc
         have hb:=kP (P:=P) (w:=w) (isS:=false) (len:=len) (cap:=len) hl hh (show VL σ none none from trivial) h1 h2 rfl hc.1 hc.2 (Nat.le_refl _) rfl
         have key:(Instr.sliceAt t (.pointer (some ⟨r.1,o,none⟩)) vl vh none).run P w=.ok (.slice (some (if len=l then ⟨r.1,o,none⟩ else ⟨r.1,o+l*z,none⟩)) (hi' - l) (len - l)) w:=by
          unfold Instr.sliceAt
          rw[Sem.run_bind,run_underlying hu,Result.andThen_ok]
          simp only[Instr.sureAddr,Sem.run_bind,Result.andThen_ok,hb,bf hz,Sem.run_pure,addr_add]
         cases hml:Nat.beq len l with
         | true=>
           have:len=l:=Nat.eq_of_beq_eq_true hml
           subst this
           rw[hml] at h;cases h
           refine⟨_,⟨Nat.le_refl _,r,hr,rfl⟩,?_⟩
           rw[key,if_pos rfl,Nat.sub_self,show hi' - len=0 by omega]
         | false=>
           have:len≠l:=fun e=>by rw[e,Nat.beq_refl] at hml;cases hml
           rw[hml] at h
           simp only[cond_false,fE] at h;cases h
           refine⟨_,⟨Nat.sub_le_sub_right hc.2 _,r,hr,rfl⟩,?_⟩
           rw[key,if_neg this];rfl
   · cases h
 · cases h
section
variable {N:Nat} {T:Tm} {a:Act}
theorem Fp (H:mf σ N T a.tmps) {x:Option Operand} {r:Option CV} (h:Uo T x=some r):VL σ r (x.map a.eval):=by
 cases x with
 | none=>cases h;trivial
 | some x=>
   simp only[Uo] at h
   split at h
   · rename_i v hv;cases h;exact bV H hv
   · cases h
theorem Cj (off:Nat):∀ (l:List Value) (j:Nat) (cs:List Value),off+j+l.length≤cs.length→
 (l.zipIdx j).foldl (fun (cs:Array Value) (x:Value×Nat)=>cs.setIfInBounds (off+x.2) x.1) cs.toArray=(cs.take (off+j)++l++cs.drop (off+j+l.length)).toArray
 | [],j,cs,_=>by simp
 | y::l,j,cs,h=>by
   simp only[List.length_cons] at h
   have e1:(cs.set (off+j) y).take (off+(j+1))=cs.take (off+j)++[y]:=by
    rw[List.take_set,List.set_eq_take_append_cons_drop,if_pos (by simp;omega),List.take_take,Nat.min_eq_left (by omega),List.drop_eq_nil_of_le (by simp;omega)]
   have e2:(cs.set (off+j) y).drop (off+(j+1)+l.length)=cs.drop (off+j+(l.length+1)):=by
    rw[List.drop_set_of_lt (by omega)]
    congr 1;omega
   rw[List.zipIdx_cons,List.foldl_cons,List.setIfInBounds_toArray,Cj off l (j+1) _ (by simp;omega),e1,e2]
   simp
theorem pM (H:mf σ N T a.tmps) (place:Nat→Option (Nat×Nat)):∀ {parts:List (Nat×Operand)} {cs out:List CV} {k:List Value},BK place T parts cs=some out→l9 σ cs k→
 ∃ m,l9 σ out m∧Instr.fill place k.toArray (parts.map fun x=>(x.1,a.eval x.2))=some m.toArray
 | [],cs,out,k,h,hk=>by cases h;exact⟨k,hk,rfl⟩
 | (i,x)::rest,cs,out,k,h,hk=>by
   rw[BK] at h
   split at h
   · rename_i off size v hp hv
     cases hb:Nat.beq v.cells.length size with
     | false=>rw[hb] at h;cases h
     | true=>
       have hsz:v.cells.length=size:=Nat.eq_of_beq_eq_true hb
       rw[hb,cond_true] at h
       split at h
       · rename_i ds hds
         obtain⟨hle,rfl⟩:=mZ hds
         obtain⟨vs,hvs,hcells⟩:=PV.x8 (kX H hv)
         have hl1:=iR hvs
         have hl2:=iR hk
         obtain⟨m,hm,hf⟩:=pM H place h (k:=k.take off++vs++k.drop (off+vs.length)) (kE (kE (mJ _ hk) hvs) (by rw[hl1];exact sV _ hk))
         refine⟨m,hm,?_⟩
         rw[List.map_cons,Instr.fill]
         simp only[hp,hcells]
         rw[if_neg (by simp;omega)]
         rw[← hf]
         congr 1
         have:=Cj off vs 0 k (by omega)
         rw[← Array.foldl_toList]
         simpa using this
       · cases h
   · cases h
end
end
end Go.Proofs.YtgpanefhaiohnaaGreatDoor
