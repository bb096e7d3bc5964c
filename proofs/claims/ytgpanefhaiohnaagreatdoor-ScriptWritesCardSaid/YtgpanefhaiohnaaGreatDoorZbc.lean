/- hindcastlaw29: texts joined: EngE, EngN, EngR. -/
import Derived.Test.YtgpanefhaiohnaaGreatDoorZbb
namespace Go.Proofs.YtgpanefhaiohnaaGreatDoor
open Go.RowKit
def Good (P:Program) (E:Env):Prop:=∀ f args h φ w,E.spec f args h φ→Holds h w→
 if f=bu then ∃ args' f' cap,args=.func (.func f') #[] (List.toArray cap)::args'∧gJ P f'=true∧Calls P f' (args'++cap).toArray w fun e w'=>∃ v k,e=.returned v∧φ v k∧Holds k w'∧Fr w.heap.size h k w w'
 else if bu<f then ∀ t c,c<8→f=jo t c→zL P t c args→∃ v k w',lV P t c args w v w'∧φ v k∧Holds k w'∧Fr w.heap.size h k w w'
 else Calls P f args.toArray w fun e w'=>∃ v k,e=.returned v∧φ v k∧Holds k w'∧Fr w.heap.size h k w w'
structure ExtL (C D:Ctx):Prop where
 i:C.i <+: D.i
 b:C.b <+: D.b
 s:C.s <+: D.s
 v:C.v <+: D.v
 l:C.l <+: D.l
 p:C.p <+: D.p
structure Ext (C D:Ctx):Prop extends ExtL C D where
 m:D.m=C.m
theorem ExtL.refl (C:Ctx):ExtL C C:=⟨List.prefix_refl _,List.prefix_refl _,List.prefix_refl _,List.prefix_refl _,List.prefix_refl _,List.prefix_refl _⟩
theorem ExtL.trans {C D F:Ctx} (h:ExtL C D) (k:ExtL D F):ExtL C F:=⟨h.i.trans k.i,h.b.trans k.b,h.s.trans k.s,h.v.trans k.v,h.l.trans k.l,h.p.trans k.p⟩
theorem Ext.refl (C:Ctx):Ext C C:=⟨ExtL.refl C,rfl⟩
theorem Ext.trans {C D F:Ctx} (h:Ext C D) (k:Ext D F):Ext C F:=⟨h.toExtL.trans k.toExtL,k.m.trans h.m⟩
theorem Ext.push (C:Ctx) (x:Inc):Ext C (C.push x):=
 ⟨⟨List.prefix_append _ _,List.prefix_append _ _,List.prefix_append _ _,List.prefix_append _ _,List.prefix_append _ _,List.prefix_append _ _⟩,rfl⟩
theorem Ext.heap (C:Ctx) (h:Hp):Ext C (C.heap h):=⟨⟨List.prefix_refl _,List.prefix_refl _,List.prefix_refl _,List.prefix_refl _,List.prefix_refl _,List.prefix_refl _⟩,rfl⟩
theorem gG {α:Type} {l m:List α} {d:α} (h:l <+: m) {n:Nat} (hn:n<l.length):l.getD n d=m.getD n d:=by
 obtain⟨t,rfl⟩:=h
 simp[List.getElem?_append_left hn]
structure Has (C:Ctx) (N:Cnt):Prop where
 i:C.i.length=N.i
 b:C.b.length=N.b
 s:C.s.length=N.s
 v:C.v.length=N.v
 l:C.l.length=N.l
 p:C.p.length=N.p
theorem ExtL.Ed {C D:Ctx} (h:ExtL C D) {N:Cnt} (H:Has C N):Ea N C D:=
 ⟨fun _ hn=>gG h.i (by rw[H.i];exact hn),fun _ hn=>gG h.b (by rw[H.b];exact hn),fun _ hn=>gG h.s (by rw[H.s];exact hn),fun _ hn=>gG h.v (by rw[H.v];exact hn),fun _ hn=>gG h.l (by rw[H.l];exact hn),fun _ hn=>gG h.p (by rw[H.p];exact hn)⟩
theorem Ext.Ed {C D:Ctx} (h:Ext C D) {N:Cnt} (H:Has C N):Ea N C D:=h.toExtL.Ed H
theorem Has.push {C:Ctx} {N M:Cnt} (H:Has C N) {x:Inc} (h:N.add x.cnt=M):Has (C.push x) M:=by
 subst h
 exact⟨by simp[Ctx.push,Cnt.add,Inc.cnt,H.i],by simp[Ctx.push,Cnt.add,Inc.cnt,H.b],by simp[Ctx.push,Cnt.add,Inc.cnt,H.s],by simp[Ctx.push,Cnt.add,Inc.cnt,H.v],by simp[Ctx.push,Cnt.add,Inc.cnt,H.l],by simp[Ctx.push,Cnt.add,Inc.cnt,H.p]⟩
theorem Has.heap {C:Ctx} {N:Cnt} (H:Has C N) (h:Hp):Has (C.heap h) N:=⟨H.i,H.b,H.s,H.v,H.l,H.p⟩
structure Same (C D:Ctx):Prop where
 i:C.i=D.i
 b:C.b=D.b
 s:C.s=D.s
 v:C.v=D.v
 l:C.l=D.l
 p:C.p=D.p
section
variable {C D:Ctx} (h:Same C D)
include h
mutual
theorem IE.ay:∀ e:IE,e.den C=e.den D
 | .x _=>by simp only[IE.den,h.i]
 | .c _=>rfl
 | .add x y=>by simp only[IE.den,IE.ay x,IE.ay y]
 | .sub x y=>by simp only[IE.den,IE.ay x,IE.ay y]
 | .mul x y=>by simp only[IE.den,IE.ay x,IE.ay y]
 | .wr _ x=>by simp only[IE.den,IE.ay x]
 | .quo x y=>by simp only[IE.den,IE.ay x,IE.ay y]
 | .rem x y=>by simp only[IE.den,IE.ay x,IE.ay y]
 | .bits _ _ x y=>by simp only[IE.den,IE.ay x,IE.ay y]
 | .sh _ _ x y=>by simp only[IE.den,IE.ay x,IE.ay y]
 | .len x=>by simp only[IE.den,SE.ay x]
 | .at x y=>by simp only[IE.den,SE.ay x,IE.ay y]
 | .cnt x=>by simp only[IE.den,LE.ay x]
 | .cap x=>by simp only[IE.den,LE.ay x]
 | .ite x y z=>by simp only[IE.den,BE.ay x,IE.ay y,IE.ay z]
theorem BE.ay:∀ e:BE,e.den C=e.den D
 | .x _=>by simp only[BE.den,h.b]
 | .c _=>rfl
 | .not x=>by simp only[BE.den,BE.ay x]
 | .and x y=>by simp only[BE.den,BE.ay x,BE.ay y]
 | .or x y=>by simp only[BE.den,BE.ay x,BE.ay y]
 | .imp x y=>by simp only[BE.den,BE.ay x,BE.ay y]
 | .eqI x y=>by simp only[BE.den,IE.ay x,IE.ay y]
 | .lt x y=>by simp only[BE.den,IE.ay x,IE.ay y]
 | .le x y=>by simp only[BE.den,IE.ay x,IE.ay y]
 | .eqB x y=>by simp only[BE.den,BE.ay x,BE.ay y]
 | .eqS x y=>by simp only[BE.den,SE.ay x,SE.ay y]
 | .ltS x y=>by simp only[BE.den,SE.ay x,SE.ay y]
 | .nns x=>by simp only[BE.den,LE.ay x]
 | .nnp _=>by simp only[BE.den,h.p]
 | .ite x y z=>by simp only[BE.den,BE.ay x,BE.ay y,BE.ay z]
theorem SE.ay:∀ e:SE,e.den C=e.den D
 | .x _=>by simp only[SE.den,h.s]
 | .c _=>rfl
 | .app x y=>by simp only[SE.den,SE.ay x,SE.ay y]
 | .sub x y z=>by simp only[SE.den,SE.ay x,IE.ay y,IE.ay z]
 | .ite x y z=>by simp only[SE.den,BE.ay x,SE.ay y,SE.ay z]
theorem LE.ay:∀ e:LE,e.den C=e.den D
 | .x _=>by simp only[LE.den,h.l]
 | .nil=>rfl
 | .sub x y z _=>by simp only[LE.den,LE.ay x,IE.ay y,IE.ay z]
end
theorem AE.ay:∀ e:AE,e.den C=e.den D
 | .pt _ _=>by simp only[AE.den,h.p]
 | .el l i _ _=>by simp only[AE.den,LE.ay h l,IE.ay h i]
 | .ix n i _ _=>by simp only[AE.den,h.p,IE.ay h i]
theorem CE.ay (ρ:Nat→Nat):∀ e:CE,e.den C ρ=e.den D ρ
 | .i _ e=>by simp only[CE.den,IE.ay h e]
 | .b e=>by simp only[CE.den,BE.ay h e]
 | .s e=>by simp only[CE.den,SE.ay h e]
 | .own _ _=>rfl
 | .osl _ _=>rfl
 | .v _=>by simp only[CE.den,h.v]
 | .c _=>rfl
 | .sl l=>by simp only[CE.den,LE.ay h l]
 | .pt _=>by simp only[CE.den,h.p]
 | .adr a=>by simp only[CE.den,AE.ay h a]
 | .clo _ _=>by simp only[CE.den,h.p]
theorem PE.ay (ρ:Nat→Nat) (e:PE):e.den C ρ=e.den D ρ:=by
 cases e with
 | one c=>exact CE.ay h ρ c
 | agg l=>simp only[PE.den];rw[show CE.den C ρ=CE.den D ρ from funext fun c=>CE.ay h ρ c]
theorem VE.ay (ρ:Nat→Nat) (e:VE):e.den C ρ=e.den D ρ:=by
 cases e with
 | p x=>exact PE.ay h ρ x
 | tup l=>simp only[VE.den];rw[show PE.den C ρ=PE.den D ρ from funext fun c=>PE.ay h ρ c]
 | _=>rfl
end
theorem Same.heap (C:Ctx) (h:Hp):Same (C.heap h) C:=⟨rfl,rfl,rfl,rfl,rfl,rfl⟩
theorem VE.yu (C:Ctx) (h:Hp) (ρ:Nat→Nat) (e:VE):e.den (C.heap h) ρ=e.den C ρ:=VE.ay (Same.heap C h) ρ e
theorem VE.Lc {C D:Ctx} (h:Same C D) (ρ:Nat→Nat) (t:Array Value) (u:Value) (e:VE) (hh:e.holds C ρ t u):e.holds D ρ t u:=by
 cases e with
 | dead=>trivial
 | p x=>rw[VE.holds,← PE.ay h ρ x];exact hh
 | tup l=>
   have:l.map (PE.den C ρ)=l.map (PE.den D ρ):=List.map_congr_left fun e _=>PE.ay h ρ e
   rw[VE.holds,← this];exact hh
 | wg gs x=>exact⟨fun hg=>by rw[← PE.ay h ρ x];exact hh.1 hg,hh.2⟩
theorem Rep.same {B:Nat} {h0:Hp} {w0:World} {ρ:Nat→Nat} {st:St} {C D:Ctx} {a:Act} {w:World} (R:Rep B h0 w0 ρ st C a w) (h:Same C D) (hh:D.h=C.h):Rep B h0 w0 ρ st D a w:=by
 refine⟨R.defers,R.size,fun i v hv=>VE.Lc h ρ _ _ v (R.slots i v hv),fun k b hb=>?_,R.fresh,R.inj,fun k hk=>by rw[hh];exact R.free k hk,by rw[hh];exact R.holds,by rw[hh];exact R.fr,R.base,by rw[← h.i];exact R.ci,by rw[← h.b];exact R.cb,by rw[← h.s];exact R.cs,by rw[← h.v];exact R.cv,by rw[← h.l];exact R.cl,by rw[← h.p];exact R.cp,by rw[← h.v];exact R.ones⟩
 rw[R.blocks k b hb,show b.cells.map (CE.den C ρ)=b.cells.map (CE.den D ρ) from List.map_congr_left fun e _=>CE.ay h ρ e]
theorem YJ (bs:List UInt8):∀ s:ByteArray,(bs.map fun c=>(c.toNat:Int)).foldl (fun r n=>r.push (UInt8.ofNat n.toNat)) s=s++B bs:=by
 induction bs with
 | nil=>intro s;apply ByteArray.ext;simp[B]
 | cons c t ih=>
   intro s
   simp only[List.map_cons,List.foldl_cons]
   rw[ih]
   apply ByteArray.ext
   simp[B]
section
variable {P:Program} {E:Env} {B:Nat} {h0:Hp} {w0:World} {ρ:Nat→Nat} {st:St} {C:Ctx} {a:Act} {w:World}
theorem Rep.has (R:Rep B h0 w0 ρ st C a w):Has C st.n:=⟨R.ci,R.cb,R.cs,R.cv,R.cl,R.cp⟩
theorem Rep.owned (R:Rep B h0 w0 ρ st C a w) {k:Nat} (hk:k<st.m.length):ρ k<w.heap.size:=by
 obtain⟨b,hb⟩:∃ b,st.m[k]? = some b:=⟨_,List.getElem?_eq_getElem hk⟩
 exact (Array.getElem?_eq_some_iff.1 (R.blocks k b hb)).1
theorem jR (R:Rep B h0 w0 ρ st C a w) (hb:st.blw=true) {D:Ctx} (hx:Ext C D) {n:Cnt} (hn:Has D n) (ho:dZ D.v) {w':World} (hH:Holds D.h w') (hF:Fr w.heap.size C.h D.h w w'):Rep B h0 w0 ρ { st with n:=n } D a w':=by
 simp only[St.blw,Bool.and_eq_true] at hb
 have hA:=hx.Ed R.has
 refine⟨R.defers,R.size,?_,?_,R.fresh,R.inj,fun k hk=>hF.ghost _ (R.owned hk) (R.free k hk),hH,R.fr.trans hF R.base,Nat.le_trans R.base hF.size,hn.i,hn.b,hn.s,hn.v,hn.l,hn.p,ho⟩
 · intro i v h
   exact VE.pU hA ρ _ _ v (List.all_eq_true.1 hb.1 v (List.mem_of_getElem? h)) (R.slots i v h)
 · intro k b h
   have hk:=(List.getElem?_eq_some_iff.1 h).1
   rw[hF.block _ (R.owned hk) (.none (R.free k hk)),R.blocks k b h,jb hA ρ b.cells (List.all_eq_true.1 hb.2 b (List.mem_of_getElem? h))]
theorem ui (R:Rep B h0 w0 ρ st C a w) (hb:st.blw=true) {x:Inc} {n:Cnt} (hn:st.n.add x.cnt=n) (ho:dZ x.v):Rep B h0 w0 ρ { st with n:=n } (C.push x) a w:=
 jR R hb (Ext.push C x) (R.has.push hn) (fun u hu=>by rcases List.mem_append.1 hu with h | h<;>first | exact R.ones u h | exact ho u h) R.holds (Fr.refl _ _ _)
theorem Af {o:Oper} {v:Operand} {f:FuncId} {args:Array Operand} {ts:Array TypeId} {cap:Array Value} (ho:o.op=.call { callee:=.value v,args:=args,argTypes:=ts }) (hv:a.eval v=.func (.func f) #[] cap) (hb:gJ P f=true):
 (execOp a.eval o).run P w=.ok (.enter f (args.map a.eval++cap)) w:=by
 unfold gJ at hb
 split at hb
 · rename_i fn hf
   simp only[Bool.and_eq_true,bne_iff_ne,ne_eq] at hb
   obtain⟨h1,h2⟩:=hb
   have h3:¬ fn.body=none:=fun hbd=>by rw[hbd] at h2;cases h2
   unfold execOp
   rw[ho]
   simp[resolve,hv,Deferred.ofValue,invoke,callFunc,hf,h1,h3]
 · cases hb
theorem Eh (hE:Good P E) (R:Rep B h0 w0 ρ st C a w) {gs:Gs} (hg:dA gs a.tmps) {o:Oper} {v:Operand} {f:FuncId} {args:Array Operand} {ts:Array TypeId} {vas:List PE} (ho:o.op=.call { callee:=.value v,args:=args,argTypes:=ts })
 (h:Eg st gs v args.toList=some (f,vas)) (hb:J5 P f=true) (hpl:vas.all PE.plain=true) {φ:Value→Hp→Prop} (hs:E.spec f (vas.map (PE.den C aP)) C.h φ):
 ∃ f' args',(execOp a.eval o).run P w=.ok (.enter f' args') w∧Calls P f' args' w fun e w'=>∃ v k,e=.returned v∧φ v k∧Holds k w'∧Fr w.heap.size C.h k w w':=by
 have h2:vas.map (PE.den C aP)=vas.map (PE.den C ρ):=List.map_congr_left fun x hx=>x.eF (List.all_eq_true.1 hpl x hx)
 rw[h2] at hs
 have hcall:=hE f _ _ _ w hs R.holds
 unfold J5 at hb
 unfold Eg at h
 split at h
 · rename_i f' vas' hv hvas
   split at h
   · cases h
   rename_i hne
   cases h
   have hne2:¬ f=bu:=fun e=>hne (by rw[e];exact Nat.le_refl _)
   rw[if_neg hne2,if_neg (fun h=>hne (Nat.le_of_lt h))] at hcall
   rw[decide_eq_false hne2,Bool.false_or] at hb
   have hv':a.eval v=.func (.func f) #[] #[]:=az R hg hv
   refine⟨_,_,Af ho hv' hb,?_⟩
   have h1:=mQ R hg hvas
   have:args.map a.eval++#[]=(vas.map (PE.den C ρ)).toArray:=by
    rw[← h1]
    apply Array.ext'
    simp
   rw[this]
   exact hcall
 · rename_i f' l vas' hv hvas
   split at h
   · cases h
   rename_i hne
   cases h
   have hne2:¬ f=bu:=fun e=>hne (by rw[e];exact Nat.le_refl _)
   rw[if_neg hne2,if_neg (fun h=>hne (Nat.le_of_lt h))] at hcall
   rw[decide_eq_false hne2,Bool.false_or] at hb
   have hv':a.eval v=.func (.func f) #[] (l.map fun n=>Value.pointer ((C.p.getD n none).map fun x=>⟨x.1,x.2,none⟩)).toArray:=az R hg hv
   refine⟨_,_,Af ho hv' hb,?_⟩
   have h1:=mQ R hg hvas
   have:args.map a.eval++(l.map fun n=>Value.pointer ((C.p.getD n none).map fun x=>⟨x.1,x.2,none⟩)).toArray=((vas'++l.map fun n=>PE.one (.pt n)).map (PE.den C ρ)).toArray:=by
    rw[List.map_append,← h1]
    apply Array.ext'
    simp[PE.den,CE.den]
   rw[this]
   exact hcall
 · rename_i n vas' hv hvas
   cases h
   rw[if_pos rfl] at hcall
   obtain⟨args',f',cap,he,hbd,hc⟩:=hcall
   rw[List.map_cons] at he
   injection he with he1 he2
   have hv':a.eval v=.func (.func f') #[] cap.toArray:=(az R hg hv).trans he1
   refine⟨_,_,Af ho hv' hbd,?_⟩
   have h1:=mQ R hg hvas
   have:args.map a.eval++cap.toArray=(args'++cap).toArray:=by
    rw[← he2,← h1]
    apply Array.ext'
    simp
   rw[this]
   exact hc
 · cases h
theorem gK {s:Sem Value} {x:Value} {w':World} (h:s.run P w=.ok x w'):(do pure (Next.value (← s)):Sem Next).run P w=.ok (.value x) w':=by
 rw[Sem.run_bind,h];rfl
theorem Qn (R:Rep B h0 w0 ρ st C a w) {gs:Gs} (hg:dA gs a.tmps) {o:Oper} {f:FuncId} {vas:List PE} {r:VE} {n:Cnt} (h:Oz P st gs o.op=some (f,vas,r,n)):
 ∃ t c,c<8∧f=jo t c∧zL P t c (vas.map (PE.den C ρ))∧∀ v w',lV P t c (vas.map (PE.den C ρ)) w v w'→(execOp a.eval o).run P w=.ok (.value v) w'∨(v=undef∧(execOp a.eval o).run P w=.ok .skip w'):=by
 unfold Oz at h
 split at h
 · rename_i t m k ok hop
   split at h
   · rename_i e x s hm hx hk
     simp only[Option.map_eq_some_iff] at h
     obtain⟨y,_,h⟩:=h
     have e1:=az R hg hx
     have e2:=az R hg hk
     cases ok with
     | true=>
       simp only[if_true,Prod.mk.injEq] at h
       obtain⟨rfl,rfl,_⟩:=h
       refine⟨t,1,by omega,rfl,mP (by omega),fun v w' hr=>.inl ?_⟩
       rw[gm (by omega)] at hr
       unfold execOp
       rw[hop]
       simp only[e1,e2]
       exact gK hr
     | false=>
       simp only[Bool.false_eq_true,if_false,Prod.mk.injEq] at h
       obtain⟨rfl,rfl,_⟩:=h
       refine⟨t,0,by omega,rfl,mP (by omega),fun v w' hr=>.inl ?_⟩
       rw[gm (by omega)] at hr
       unfold execOp
       rw[hop]
       simp only[e1,e2]
       exact gK hr
   · cases h
 · rename_i t m k v hop
   split at h
   · rename_i e x s y hm hx hk hv
     simp only[Option.some.injEq,Prod.mk.injEq] at h
     obtain⟨rfl,rfl,_⟩:=h
     have e1:=az R hg hx
     have e2:=az R hg hk
     have e3:=az R hg hv
     refine⟨t,2,by omega,rfl,mP (by omega),fun v w' hr=>.inr ?_⟩
     rw[gm (by omega)] at hr
     unfold execOp
     rw[hop]
     simp only[e1,e2,e3]
     have hr':(do Instr.mapUpdate t (x.den C ρ) (PE.den C ρ (.one (.s s))) (y.den C ρ);pure undef:Sem Value).run P w=.ok v w':=hr
     rw[Sem.run_bind] at hr'⊢
     cases hu:(Instr.mapUpdate t (x.den C ρ) (PE.den C ρ (.one (.s s))) (y.den C ρ)).run P w with
     | halt a b=>rw[hu] at hr';cases hr'
     | ok u w1=>
       rw[hu] at hr'
       have hr':(Result.ok undef w1:Result Value)=.ok v w':=hr'
       cases hr'
       exact⟨rfl,rfl⟩
   · cases h
 · rename_i t hop
   simp only[Option.map_eq_some_iff,Prod.mk.injEq] at h
   obtain⟨_,_,rfl,rfl,_⟩:=h
   refine⟨t,4,by omega,rfl,mP (by omega),fun v w' hr=>.inl ?_⟩
   rw[gm (by omega)] at hr
   unfold execOp
   rw[hop]
   exact gK hr
 · rename_i op _ _ _
   split at h
   · rename_i t m k hd
     split at h
     · rename_i e x s hm hx hk
       simp only[Option.some.injEq,Prod.mk.injEq] at h
       obtain⟨rfl,rfl,_⟩:=h
       have e1:=az R hg hx
       have e2:=az R hg hk
       refine⟨t,3,by omega,rfl,mP (by omega),fun v w' hr=>.inl ?_⟩
       rw[gm (by omega)] at hr
       unfold XX at hd
       split at hd
       · rename_i args ts hop
         split at hd
         · rename_i m' k' t' tl ha ht
           cases hd
           obtain⟨args⟩:=args
           obtain⟨ts⟩:=ts
           simp only at ha ht
           subst ha ht
           unfold execOp
           rw[hop]
           have hr':(Builtin.delete_ #[t] 0 #[x.den C ρ,PE.den C ρ (.one (.s s))]).run P w=.ok v w':=hr
           have hd2:Builtin.delete_ (t::tl).toArray o.type #[x.den C ρ,PE.den C ρ (.one (.s s))]=Builtin.delete_ #[t] 0 #[x.den C ρ,PE.den C ρ (.one (.s s))]:=by
            unfold Builtin.delete_
            simp
           simp only[resolve,invoke,builtin,Sem.run_bind,List.map_toArray,List.map_cons,List.map_nil,e1,e2,Result.andThen,Sem.run_pure,hd2,hr']
         · cases hd
       · cases hd
     · cases h
   · cases h
theorem DL (hE:Good P E) (R:Rep B h0 w0 ρ st C a w) {o:Oper} {t c:Nat} (hc:c<8) {vas:List PE} (hpre:zL P t c (vas.map (PE.den C ρ)))
 (hrun:∀ v w',lV P t c (vas.map (PE.den C ρ)) w v w'→(execOp a.eval o).run P w=.ok (.value v) w'∨(v=undef∧(execOp a.eval o).run P w=.ok .skip w')) (hpl:vas.all PE.plain=true)
 {φ:Value→Hp→Prop} (hs:E.spec (jo t c) (vas.map (PE.den C aP)) C.h φ) {Next:Act→World→Prop} {Q:Exit→Act→World→Prop} (hN:∀ u k w',φ u k→Holds k w'→Fr w.heap.size C.h k w w'→Next (a.put o.dst u) w'):o.wp P a w Next Q:=by
 have h2:vas.map (PE.den C aP)=vas.map (PE.den C ρ):=List.map_congr_left fun x hx=>x.eF (List.all_eq_true.1 hpl x hx)
 rw[h2] at hs
 have hcall:=hE _ _ _ _ w hs R.holds
 have hlt:bu<jo t c:=by show (1000001:Nat)<2000000+(t*8+c);omega
 rw[if_neg (fun e=>by rw[e] at hlt;exact Nat.lt_irrefl _ hlt),if_pos hlt] at hcall
 obtain⟨v,k,w',hr,hφ,hH,hF⟩:=hcall t c hc rfl hpre
 unfold Oper.wp
 rcases hrun v w' hr with e | ⟨rfl,e⟩
 · rw[e]
   exact hN v k w' hφ hH hF
 · rw[e]
   exact hN undef k w' hφ hH hF
theorem Qu {gs:Gs} {o:Oper} {f:FuncId} {vas:List PE} {n:Cnt} (gs':List (Nat×Bool)) (x:PE):vw P st gs o≠some (f,vas,.wg gs' x,n):=by
 intro h
 unfold vw at h
 split at h
 · rename_i y hy
   cases h
   unfold Oz at hy
   split at hy
   · split at hy
     · simp only[Option.map_eq_some_iff] at hy
       obtain⟨z,_,hy⟩:=hy
       split at hy<;>cases hy
     · cases hy
   · split at hy<;>cases hy
   · simp only[Option.map_eq_some_iff] at hy
     obtain⟨z,_,hy⟩:=hy
     cases hy
   · split at hy
     · split at hy<;>cases hy
     · cases hy
 · split at h
   · simp only[Option.bind_eq_some_iff] at h
     obtain⟨fv,hcal,h⟩:=h
     split at h
     · simp only[Option.map_eq_some_iff,Prod.mk.injEq] at h
       obtain⟨z,hz,_,_,h3,_⟩:=h
       unfold Tf at hz
       split at hz<;>cases hz<;>cases h3
     · cases h
   · cases h
theorem Dx (hE:Good P E) (R:Rep B h0 w0 ρ st C a w) {gs:Gs} (hg:dA gs a.tmps) {o:Oper} {f:FuncId} {vas:List PE} {r:VE} {n:Cnt} (h:vw P st gs o=some (f,vas,r,n)) (hpl:vas.all PE.plain=true)
 {φ:Value→Hp→Prop} (hs:E.spec f (vas.map (PE.den C aP)) C.h φ) {Next:Act→World→Prop} {Q:Exit→Act→World→Prop} (hN:∀ u k w',φ u k→Holds k w'→Fr w.heap.size C.h k w w'→Next (a.put o.dst u) w'):o.wp P a w Next Q:=by
 unfold vw at h
 split at h
 · rename_i y hy
   cases h
   obtain⟨t,c,hc,rfl,hpre,hrun⟩:=Qn R hg hy
   exact DL hE R hc hpre hrun hpl hs hN
 · split at h
   · rename_i v args ts ho
     simp only[Option.bind_eq_some_iff] at h
     obtain⟨fv,hcal,h⟩:=h
     split at h
     · rename_i hb
       simp only[Option.map_eq_some_iff,Prod.mk.injEq] at h
       obtain⟨_,_,h1,h2,_⟩:=h
       rw[h1] at hb
       obtain⟨f',args',hrun,hcl⟩:=Eh hE R hg ho (by rw[hcal,← h1,← h2]) hb hpl hs
       unfold Oper.wp
       rw[hrun]
       show Calls P f' args' w _
       refine hcl.mono ?_
       rintro e w' ⟨u,k,rfl,hφ,hH,hF⟩
       exact hN u k w' hφ hH hF
     · cases h
   · cases h
def jT (P:Program) (ops:Array Oper) (o:Oper) (Next:Act→World→Prop) (Q:Exit→Act→World→Prop) (a:Act) (w:World):Prop:=
 if Region.wanted o (yielded ops a.tmps)=true then o.wp P a w Next Q∨(o.asks P a w∧LetsOut Q) else Next (a.put o.dst undef) w
theorem gp {ops:Array Oper} {o:Oper} {Next:Act→World→Prop} {Q:Exit→Act→World→Prop} {v:Value} {w':World} (h:(execOp a.eval o).run P w=.ok (.value v) w') (hn:Next (a.put o.dst v) w')
 (hu:¬ Region.wanted o (yielded ops a.tmps)=true→Next (a.put o.dst undef) w):jT P ops o Next Q a w:=by
 unfold jT
 split
 · left;unfold Oper.wp;rw[h];exact hn
 · rename_i hw;exact hu hw
theorem OJ {ρ σ:Nat→Nat} {m:Nat} (h:∀ k,k<m→ρ k=σ k):∀ c:CE,c.qA m=true→c.den C ρ=c.den C σ
 | .own k o,hk=>by simp only[CE.qA,decide_eq_true_eq] at hk;simp only[CE.den,h k hk]
 | .osl k o,hk=>by simp only[CE.qA,decide_eq_true_eq] at hk;simp only[CE.den,h k hk]
 | .i _ _,_=>rfl
 | .b _,_=>rfl
 | .s _,_=>rfl
 | .v _,_=>rfl
 | .c _,_=>rfl
 | .sl _,_=>rfl
 | .pt _,_=>rfl
 | .adr _,_=>rfl
 | .clo _ _,_=>rfl
theorem zK {ρ σ:Nat→Nat} {m:Nat} (h:∀ k,k<m→ρ k=σ k) {l:List CE} (hl:l.all (CE.qA m)=true):l.map (CE.den C ρ)=l.map (CE.den C σ):=
 List.map_congr_left fun c hc=>OJ h c (List.all_eq_true.1 hl c hc)
theorem L6 {ρ σ:Nat→Nat} {m:Nat} (h:∀ k,k<m→ρ k=σ k) (p:PE) (hp:p.cells.all (CE.qA m)=true):p.den C ρ=p.den C σ:=by
 cases p with
 | one c=>exact OJ h c (by simpa[PE.cells] using hp)
 | agg l=>exact congrArg (fun x=>Value.agg x.toArray) (zK (l:=l) h hp)
theorem vH (R:Rep B h0 w0 ρ st C a w) (hm:st.qA=true) {cs:List CE} (hc:cs.all (CE.qA st.m.length)=true) (t:TypeId):
 ∃ σ,σ st.m.length=w.heap.size∧Rep B h0 w0 σ { st with m:=st.m++[⟨cs,t⟩] } C a (w.alloc (.cells (cs.map (CE.den C ρ)).toArray t)):=by
 simp only[St.qA,Bool.and_eq_true] at hm
 refine⟨fun k=>if k=st.m.length then w.heap.size else ρ k,by simp,?_⟩
 have hag:∀ k,k<st.m.length→ρ k=(fun k=>if k=st.m.length then w.heap.size else ρ k) k:=fun k hk=>by simp only;rw[if_neg (by omega)]
 have hbel:Below w.heap.size w (w.alloc (.cells (cs.map (CE.den C ρ)).toArray t)):=(Below.refl _ _).alloc (Nat.le_refl _) _
 refine⟨R.defers,R.size,?_,?_,?_,?_,?_,R.holds.below hbel,R.fr.trans (Fr.of_below hbel) R.base,Nat.le_trans R.base hbel.size,R.ci,R.cb,R.cs,R.cv,R.cl,R.cp,R.ones⟩
 · intro i v h
   have hk:=List.all_eq_true.1 hm.1 v (List.mem_of_getElem? h)
   have hh:=R.slots i v h
   cases v with
   | dead=>trivial
   | p x=>rw[VE.holds,← L6 hag x hk];exact hh
   | tup l=>
     have e:l.map (PE.den C ρ)=l.map (PE.den C fun k=>if k=st.m.length then w.heap.size else ρ k):=
      List.map_congr_left fun x hx=>L6 hag x (List.all_eq_true.1 hk x hx)
     rw[VE.holds,← e];exact hh
   | wg gs x=>exact⟨fun hg=>by rw[← L6 hag x hk];exact hh.1 hg,hh.2⟩
 · intro k b h
   by_cases hk:k<st.m.length
   · rw[List.getElem?_append_left hk] at h
     have h1:=R.blocks k b h
     have h2:=R.owned hk
     rw[if_neg (by omega),Below.heap_alloc _ _ _ h2,h1,zK hag (List.all_eq_true.1 hm.2 b (List.mem_of_getElem? h))]
   · have hk2:k=st.m.length:=by
      have:=(List.getElem?_eq_some_iff.1 h).1
      simp at this;omega
     subst hk2
     rw[List.getElem?_append_right (Nat.le_refl _)] at h
     simp at h
     subst h
     simp only[if_true]
     rw[← zK hag hc]
     show (w.heap.push _)[w.heap.size]? = _
     simp
 · intro k hk
   by_cases he:k=st.m.length
   · simp only[he,if_true];exact .inl R.base
   · simp only[if_neg he]
     exact R.fresh k (by simp at hk;omega)
 · intro k j hk hj e
   simp only[List.length_append,List.length_cons,List.length_nil] at hk hj
   by_cases h1:k=st.m.length<;>by_cases h2:j=st.m.length
   · omega
   · have:=R.owned (k:=j) (by omega)
     simp only[h1,if_true,if_neg h2] at e
     omega
   · have:=R.owned (k:=k) (by omega)
     simp only[if_neg h1,h2,if_true] at e
     omega
   · simp only[if_neg h1,if_neg h2] at e
     exact R.inj k j (by omega) (by omega) e
 · intro k hk
   by_cases he:k=st.m.length
   · simp only[he,if_true]
     cases hq:C.h w.heap.size with
     | none=>rfl
     | some o=>have:=R.holds.lt (b:=w.heap.size) (by rw[hq];simp);omega
   · simp only[if_neg he]
     exact R.free k (by simp at hk;omega)
theorem DT (R:Rep B h0 w0 ρ st C a w) {k:Nat} {b:ou} (hk:st.m[k]? = some b) {cs:List CE}:
 Rep B h0 w0 ρ { st with m:=st.m.set k ⟨cs,b.ty⟩ } C a (w.setRow (ρ k) (cs.map (CE.den C ρ)).toArray):=by
 have hlt:k<st.m.length:=(List.getElem?_eq_some_iff.1 hk).1
 refine⟨R.defers,R.size,R.slots,?_,by simpa using R.fresh,by simpa using R.inj,by simpa using R.free,?_,?_,by simpa using R.base,R.ci,R.cb,R.cs,R.cv,R.cl,R.cp,R.ones⟩
 · intro j c h
   by_cases hj:k=j
   · subst hj
     rw[List.getElem?_set_self' ] at h
     rw[hk] at h
     simp at h
     subst h
     exact setRow_heap _ _ _ _ _ _ (R.blocks k b hk)
   · rw[List.getElem?_set_ne hj] at h
     rw[setRow_other _ _ _ _ (fun e=>hj (R.inj k j hlt (List.getElem?_eq_some_iff.1 h).1 e.symm)),R.blocks j c h]
 · intro g o hg
   rw[setRow_other _ _ _ _ (fun e=>by rw[e,R.free k hlt] at hg;cases hg)]
   exact R.holds g o hg
 · refine⟨R.fr.os,R.fr.tape,R.fr.output,by simpa using R.fr.size,fun i hi hn=>?_,R.fr.ghost,R.fr.un⟩
   rw[setRow_other _ _ _ _ (fun e=>?_),R.fr.block i hi hn]
   rcases R.fresh k hlt with h | h
   · omega
   · rw[← e] at h;exact h hn
theorem QS (R:Rep B h0 w0 ρ st C a w) (hb:st.blw=true) {g:Nat} {o:HO} (hg:C.h g=some o) (hT:o.ty<1000000) (cs:List Value):
 Rep B h0 w0 ρ st (C.heap (C.h.set g ⟨cs,o.ty⟩)) a (w.setRow g cs.toArray):=by
 have hw:=(R.holds g o hg).rw hT
 refine jR (n:=st.n) (D:=C.heap (C.h.set g ⟨cs,o.ty⟩)) R hb (Ext.heap C _) (R.has.heap _) R.ones ?_ ?_
 · intro b x hx
   show gI x (w.setRow g cs.toArray).heap[b]?
   by_cases hbg:b=g
   · subst hbg
     have hx':(C.h.set b ⟨cs,o.ty⟩) b=some x:=hx
     simp only[Hp.set,if_true,Option.some.injEq] at hx'
     subst hx'
     exact .of (setRow_heap _ _ _ _ _ _ hw)
   · have hx':(C.h.set g ⟨cs,o.ty⟩) b=some x:=hx
     simp only[Hp.set,if_neg hbg] at hx'
     rw[setRow_other _ _ _ _ hbg]
     exact R.holds b x hx'
 · refine⟨rfl,rfl,rfl,by simp,fun k hk hn=>setRow_other _ _ _ _ (hn.ne hg hT),fun k hk hn=>?_,fun k hk hn=>hn.set (hn.ne hg hT)⟩
   show (C.h.set g ⟨cs,o.ty⟩) k=none
   simp only[Hp.set]
   rw[if_neg (fun e=>by rw[e,hg] at hn;cases hn)]
   exact hn
theorem FB (R:Rep B h0 w0 ρ st C a w) (hb:st.blw=true) {n:Cnt} {x:Inc} (hn:st.n.add x.cnt=n) (ho:dZ x.v) (cs:List Value) (ty:TypeId) (hcs:∀ u∈cs,rG u):
 Rep B h0 w0 ρ { st with n:=n } ((C.push x).heap (C.h.set w.heap.size ⟨cs,ty⟩)) a (w.alloc (.cells cs.toArray ty)):=by
 have hbel:Below w.heap.size w (w.alloc (.cells cs.toArray ty)):=(Below.refl _ _).alloc (Nat.le_refl _) _
 refine jR (D:=(C.push x).heap (C.h.set w.heap.size ⟨cs,ty⟩)) R hb ((Ext.push C x).trans (Ext.heap _ _)) ((R.has.push hn).heap _) (fun u hu=>by rcases List.mem_append.1 hu with h | h<;>first | exact R.ones u h | exact ho u h) ?_ ?_
 · intro b y hy
   have hy':(C.h.set w.heap.size ⟨cs,ty⟩) b=some y:=hy
   simp only[Hp.set] at hy'
   by_cases he:b=w.heap.size
   · rw[if_pos he] at hy'
     cases hy'
     subst he
     refine .of ?_ (.inr hcs)
     show (w.heap.push _)[w.heap.size]? = _
     simp
   · rw[if_neg he] at hy'
     exact R.holds.below hbel b y hy'
 · refine⟨hbel.os,hbel.tape,hbel.output,hbel.size,fun k hk _=>hbel.block k hk,fun k hk hn=>?_,fun k hk hn=>hn.set (by omega)⟩
   show (C.h.set w.heap.size ⟨cs,ty⟩) k=none
   simp only[Hp.set]
   rw[if_neg (by omega)]
   exact hn
theorem uZ {g c:BE} {k:Fm} (h:(IU g c k).says E C):(g.den C=true→c.den C=true)∧k.says E C:=by
 unfold IU at h
 split at h
 · exact⟨fun _=>rfl,h⟩
 · exact h
theorem jc {l:List CE} (h:l.all CE.plain=true):l.map (CE.den C aP)=l.map (CE.den C ρ):=qI l h
theorem gV {x:Inc} (h:dZ C.v) (k:dZ x.v):dZ (C.push x).v:=fun u hu=>by rcases List.mem_append.1 hu with y | y<;>first | exact h u y | exact k u y
theorem iC {b:Nat} {cs:List Value} {ty:TypeId} {fz:Nat×Nat} (h:w.heap[b]? = some (.cells cs.toArray ty fz)) (o:Nat):w.cell? ⟨b,o,none⟩=cs[o]?:=by
 unfold World.cell?
 rw[h]
 simp
theorem addr_add (b o j:Nat):(⟨b,o,none⟩:Addr).add j=⟨b,o+j,none⟩:=by
 unfold Addr.add;split
 · rename_i h0;subst h0;rfl
 · rfl
theorem pX {h:Hp} (H:Holds h w) {x:Option (Nat×Nat)} {n:Nat} {cs:List Value} (hr:hread h x n=some cs) (h1:∀ u∈cs,rG u):∃ q,x=some q∧cs.length=n∧∀ j u,cs[j]? = some u→w.cell? ⟨q.1,q.2+j,none⟩=some u:=by
 unfold hread at hr
 split at hr
 · rename_i q
   split at hr
   · rename_i o ho
     split at hr
     · rename_i hle
       cases hr
       refine⟨q,rfl,by simp;omega,fun j u hu=>?_⟩
       have hm:=List.mem_of_getElem? hu
       obtain⟨T,fz,hbl⟩:=(H _ _ ho).cells (List.mem_of_mem_drop (List.mem_of_mem_take hm)) (h1 u hm)
       rw[iC hbl]
       rw[List.getElem?_take] at hu
       split at hu
       · rw[List.getElem?_drop] at hu;exact hu
       · cases hu
     · cases hr
   · cases hr
 · cases hr
theorem mD {src dst:TypeId} (hty:rQ P src dst=true) {s:bg} {bs:List UInt8} {h:Hp} (H:Holds h w) (hb:BytesAt h s bs):(convert src dst s.val).run P w=.ok (.string (Go.Proofs.YtgpanefhaiohnaaGreatDoor.B bs)) w:=by
 unfold rQ at hty
 split at hty
 · rename_i e hs1 hd1
   split at hty
   · rename_i he1
     unfold convert
     simp only[Sem.run_bind,run_underlying hs1,run_underlying hd1,run_underlying he1,Result.andThen_ok,bg.val]
     rcases hb with ⟨ha,rfl⟩ | hread
     · rw[ha];rfl
     · obtain⟨q,hq,hlen,hcell⟩:=pX H hread (fun u hu=>by obtain⟨c,_,rfl⟩:=List.mem_map.1 hu;exact vk rfl)
       rw[hq]
       have hl:=run_loadCells_list (P:=P) w ⟨q.1,q.2,none⟩ (bs.map fun c=>Value.int .u8 c.toNat) (by
        intro j v hv
        rw[addr_add]
        exact hcell j v hv)
       rw[hlen] at hl
       have:=run_bytesToString (P:=P) w ⟨q.1,q.2,none⟩ s.n s.c (bs.map fun c=>(c.toNat:Int)) (by
        rw[hl];simp)
       simp only[Option.map_some]
       rw[this,YJ]
       congr 2
   · cases hty
 · cases hty
theorem uU {t:TypeId} {d:TypeDesc} (hu:P.underlying t=some d) {n:Nat} (hn:bU P t=some n) {q:Nat×Nat} {cs:List Value} (hl:cs.length=n) (hc:∀ j u,cs[j]? = some u→w.cell? ⟨q.1,q.2+j,none⟩=some u):
 (fZ P t=true→(Instr.loadAt t (.pointer (some ⟨q.1,q.2,none⟩))).run P w=.ok (.agg cs.toArray) w)∧(fZ P t=false→∀ u,cs=[u]→(Instr.loadAt t (.pointer (some ⟨q.1,q.2,none⟩))).run P w=.ok u w):=by
 refine⟨fun hagg=>?_,fun hagg u hcs=>?_⟩
 · show (do loadVar t (← Instr.sureAddr (.pointer (some ⟨q.1,q.2,none⟩)))).run P w=_
   rw[Sem.run_bind]
   show (loadVar t ⟨q.1,q.2,none⟩).run P w=_
   unfold loadVar
   rw[Sem.run_bind,ja t hu,Result.andThen_ok,if_pos hagg,Sem.run_bind,bf hn,Result.andThen_ok]
   have:=run_loadCells_list (P:=P) w ⟨q.1,q.2,none⟩ cs (by
    intro j u hu
    rw[addr_add]
    exact hc j u hu)
   rw[hl] at this
   rw[Sem.run_bind,this]
   rfl
 · show (do loadVar t (← Instr.sureAddr (.pointer (some ⟨q.1,q.2,none⟩)))).run P w=_
   rw[Sem.run_bind]
   show (loadVar t ⟨q.1,q.2,none⟩).run P w=_
   unfold loadVar
   rw[Sem.run_bind,ja t hu,Result.andThen_ok,if_neg (by rw[hagg];decide)]
   have hx:=hc 0 u (by rw[hcs];rfl)
   rw[Nat.add_zero] at hx
   simp[hx]
theorem lu {t:TypeId} {b off:Nat} {ty:TypeId} {cur:List Value} (hb:w.heap[b]? = some (.cells cur.toArray ty (0,0))) {v:Value} {cs:List Value} (hv:v.cells=cs.toArray) {n:Nat} (hn:bU P t=some n) (hl:cs.length=n) (hle:off+n≤cur.length) (h1:∀ u∈cs,u.oneCell'=true):
 (Instr.storeAt t (.pointer (some ⟨b,off,none⟩)) v).run P w=.ok () (w.setRow b (cur.take off++cs++cur.drop (off+n)).toArray):=by
 have hst:=run_storeCells_at (P:=P) b off ty cs 0 cur.toArray w hb (by simp;omega) h1
 simp only[Instr.storeAt,Instr.sureAddr,storeVar,Sem.run_bind,Sem.run_pure,Result.andThen_ok,bf hn]
 have hsz:v.cells.size=n:=by rw[hv];simp[hl]
 rw[if_neg (by simpa using hsz),hv]
 show ((storeCells ⟨b,off,none⟩ cs).run P w)=_
 simp only[Nat.add_zero] at hst
 rw[hst]
 simp[hl]
theorem lq {ops:Array Oper} {o:Oper} {Next:Act→World→Prop} {Q:Exit→Act→World→Prop} {gs:Gs} {g:BE} (hw:Region.wanted o (yielded ops a.tmps)=true↔dA gs a.tmps) (hgi:g.den C=true↔dA gs a.tmps)
 (hy:g.den C=true→dA gs a.tmps→o.wp P a w Next Q) (hn:g.den C=false→¬ dA gs a.tmps→Next (a.put o.dst undef) w):jT P ops o Next Q a w:=by
 unfold jT
 split
 · rename_i hwant
   left
   have hc:=hw.1 hwant
   exact hy (hgi.2 hc) hc
 · rename_i hwant
   have hc:¬ dA gs a.tmps:=fun h=>hwant (hw.2 h)
   refine hn ?_ hc
   cases hq:g.den C
   · rfl
   · exact absurd (hgi.1 hq) hc
theorem CP (h:Hp) {k b:Nat} {o:HO} (hk:k≠b):(h.set b o) k=h k:=by simp only[Hp.set,if_neg hk]
theorem uq (s:List UInt8):Lib.strCells (Go.Proofs.YtgpanefhaiohnaaGreatDoor.B s)=s.map fun c=>Value.int .u8 c.toNat:=by simp[Lib.strCells,Go.Proofs.YtgpanefhaiohnaaGreatDoor.B]
theorem xR {P:Program} {h:Hp} {w:World} (H:Holds h w) {s:bg} {xs:List Value} {t u e:TypeId} {i:TypeInfo} (ht:P.underlying t=some (.slice e)) (hu:P.underlying u=some .string) (hi:P.info? e=some i) (hz:i.zero=some (.int .u8 0)) (hsz:i.size=1) (hby:i.bytes=1)
 (hs:bJ h s xs e 1) (bs:ByteArray) (h63:s.n+bs.size≤2000000000000) (ty:TypeId) (hT:e<1000000):
 ∃ s' h' w',(Builtin.append_ #[t,u] ty #[s.val,.string bs]).run P w=.ok s'.val w'∧bJ h' s' (xs++Lib.strCells bs) e 1∧s'.n=s.n+bs.size∧(∀ x,s'.a=some x→(∃ z,s.a=some z∧z.1=x.1)∨h x.1=none)∧(∀ b o,(∀ x,s.a=some x→x.1≠b)→h b=some o→h' b=some o)∧Holds h' w'∧Fr w.heap.size h h' w w'∧(s'.a=none↔s.a=none∧bs.size=0):=by
 have hnone:h w.heap.size=none:=by
  cases hq:h w.heap.size with
  | none=>rfl
  | some o=>have:=H.lt (b:=w.heap.size) (by rw[hq];simp);omega
 have hm:s.n+bs.size≤maxLen:=by unfold maxLen;omega
 have hcl:=Lib.strCells_length bs
 have hz1:(Value.int IntKind.u8 0).cells.size=1:=rfl
 have grown:∀ (old:Nat) (olds:List Value),olds.length=s.n→old<s.n+bs.size→∀ cap,cap=grownCap w (s.n+bs.size) old e→∀ cs,cs=olds.toArray++(Lib.strCells bs).toArray++Builtin.zeroCells (Value.int .u8 0).cells (cap - (s.n+bs.size))→
  bJ (h.set w.heap.size ⟨cs.toList,e⟩) ⟨some (w.heap.size,0),s.n+bs.size,cap⟩ (olds++Lib.strCells bs) e 1∧Holds (h.set w.heap.size ⟨cs.toList,e⟩) (w.drew.alloc (.cells cs e))∧Fr w.heap.size h (h.set w.heap.size ⟨cs.toList,e⟩) w (w.drew.alloc (.cells cs e)):=by
  intro old olds ho hold cap hcap cs hcs
  have hge:s.n+bs.size≤cap:=by rw[hcap];exact grownCap_ge w (s.n+bs.size) old e
  have hcm:cap≤maxLen:=by rw[hcap];exact grownCap_le_maxLen w (s.n+bs.size) old e hm
  have hlo:(olds++Lib.strCells bs).length=(s.n+bs.size)*1:=by rw[List.length_append,ho,hcl,Nat.mul_one]
  refine⟨.inr ⟨w.heap.size,⟨cs.toList,e⟩,rfl,(by simp only[Hp.set,if_true]),rfl,?_,hge,hcm,?_⟩,?_,?_⟩
  · rw[hcs]
    simp only[Array.length_toList,Array.size_append,List.size_toArray,size_zeroCells,hz1,ho,hcl]
    omega
  · rw[hcs]
    simp only[Array.toList_append,List.append_assoc]
    rw[← List.append_assoc,← hlo]
    exact List.take_left.symm
  · intro b o hbo
    by_cases hb:b=w.heap.size
    · subst hb
      simp only[Hp.set,if_true] at hbo
      cases hbo
      refine .of ?_
      show (w.drew.heap.push _)[w.heap.size]? = _
      have:w.drew.heap=w.heap:=rfl
      rw[this]
      simp
    · rw[CP _ hb] at hbo
      have hlt:=H.lt (b:=b) (by rw[hbo];simp)
      have:=H b o hbo
      show gI o (w.heap.push _)[b]?
      rw[Array.getElem?_push_lt hlt]
      rw[Array.getElem?_eq_getElem hlt] at this
      exact this
  · refine⟨rfl,rfl,rfl,by show w.heap.size≤(w.heap.push _).size;simp,fun k hk _=>?_,fun k hk hk0=>?_,fun k hk hn=>hn.set (by omega)⟩
    · show (w.heap.push _)[k]? = _
      rw[Array.getElem?_push_lt hk,Array.getElem?_eq_getElem hk]
    · rw[CP _ (by omega)]
      exact hk0
 have kept:∀ (o':HO) (b:Nat) (o:HO),(∀ x,s.a=some x→x.1≠b)→h b=some o→(h.set w.heap.size o') b=some o:=by
  intro o' b o _ hbo
  rw[CP _ (fun e=>by rw[e,hnone] at hbo;cases hbo)]
  exact hbo
 rcases hs with ⟨rfl,rfl⟩ | ⟨b,o,hsa,hob,hoty,hol,hnc,hcm,rfl⟩
 · by_cases hb0:bs.size=0
   · have hn:Lib.strCells bs=[]:=List.eq_nil_of_length_eq_zero (by rw[hcl];exact hb0)
     refine⟨⟨none,0,0⟩,h,w,?_,.inl ⟨rfl,by rw[hn];rfl⟩,by simp[hb0],(fun x hx=>by cases hx),fun _ _ _ h=>h,H,Fr.refl _ _ _,by simp[hb0]⟩
     have hf:=Lib.run_firstCells_string (P:=P) w 1 bs
     rw[hb0] at hf
     simp[bg.val,Builtin.append_,run_underlying ht,run_underlying hu,sizeOf,typeInfo,hi,hsz,Builtin.lenOf,hb0,hf]
   · have hr:=run_append_nil_string (P:=P) w t u ty e i (.int .u8 0) ht hu hi hz bs (by omega) (by simp only[Nat.zero_add] at h63;omega) (by rw[hby];simp only[Nat.zero_add] at h63;omega)
     have e1:(bs.data.map fun b=>Value.int .u8 b.toNat)=(Lib.strCells bs).toArray:=by
      apply Array.ext'
      simp[Lib.strCells]
     rw[e1] at hr
     obtain⟨g1,g2,g3⟩:=grown 0 [] rfl (by simp only[Nat.zero_add];omega) _ rfl _ rfl
     simp only[Nat.zero_add,List.nil_append,Array.empty_append] at g1 g2 g3
     exact⟨⟨some (w.heap.size,0),bs.size,grownCap w bs.size 0 e⟩,_,_,hr,g1,by simp,(fun x hx=>by cases hx;exact .inr hnone),kept _,g2,g3,by simp[hb0]⟩
 · subst hoty
   have hsv:s.val=.slice (some ⟨b,0,none⟩) s.n s.c:=by unfold bg.val;rw[hsa];rfl
   have hrow:=(H b o hob).rw hT
   by_cases hroom:s.n+bs.size≤s.c
   · have hr:=Lib.run_append_room_string (P:=P) w t u ty o.ty i ht hu hi hsz b s.n s.c o.cs.toArray hrow bs hroom (by simp only[List.size_toArray];omega)
     simp only at hr
     refine⟨⟨some (b,0),s.n+bs.size,s.c⟩,h.set b ⟨o.cs.take s.n++Lib.strCells bs++o.cs.drop (s.n+bs.size),o.ty⟩,_,by rw[hsv];exact hr,.inr ⟨b,⟨o.cs.take s.n++Lib.strCells bs++o.cs.drop (s.n+bs.size),o.ty⟩,rfl,(by simp only[Hp.set,if_true]),rfl,?_,hroom,hcm,?_⟩,rfl,(fun x hx=>by cases hx;exact .inl ⟨_,hsa,rfl⟩),?_,?_,?_,by simp[hsa]⟩
     · simp only[List.length_append,List.length_take,List.length_drop,hcl]
       omega
     · have hlo:(o.cs.take (s.n*1)++Lib.strCells bs).length=(s.n+bs.size)*1:=by
        rw[List.length_append,List.length_take,hcl]
        omega
       rw[← hlo,Nat.mul_one]
       exact List.take_left.symm
     · intro b' o' hne hbo
       rw[CP _ (fun e=>hne (b,0) hsa e.symm)]
       exact hbo
     · intro b' o' hbo
       by_cases hb':b'=b
       · subst hb'
         simp only[Hp.set,if_true] at hbo
         cases hbo
         exact .of (setRow_heap _ _ _ _ _ _ hrow)
       · rw[CP _ hb'] at hbo
         rw[setRow_other _ _ _ _ hb']
         exact H b' o' hbo
     · refine⟨rfl,rfl,rfl,by simp,fun k hk hn=>setRow_other _ _ _ _ (hn.ne hob hT),fun k hk hn=>?_,fun k hk hn=>hn.set (hn.ne hob hT)⟩
       rw[CP _ (fun e=>by rw[e,hob] at hn;cases hn)]
       exact hn
   · have hxl:(o.cs.take (s.n*1)).length=s.n:=by
      rw[List.length_take,hol]
      omega
     have holds:∀ j u,(o.cs.take (s.n*1))[j]? = some u→w.cell? ((⟨b,0,none⟩:Addr).add j)=some u:=fun j u hu=>by
      rw[addr_add,iC hrow,Nat.zero_add]
      rw[List.getElem?_take] at hu
      split at hu
      · exact hu
      · cases hu
     have hr:=Lib.run_append_grow_string (P:=P) w t u ty o.ty i (.int .u8 0) ht hu hi hz ⟨b,0,none⟩ s.n s.c _ (by rw[hxl,hsz,Nat.mul_one]) holds bs (by omega) (by omega) (by rw[hby];exact growslice_fits (by omega) (by omega))
     obtain⟨g1,g2,g3⟩:=grown s.c _ hxl (by omega) _ rfl _ rfl
     exact⟨⟨some (w.heap.size,0),s.n+bs.size,grownCap w (s.n+bs.size) s.c o.ty⟩,_,_,by rw[hsv];exact hr,g1,rfl,(fun x hx=>by cases hx;exact .inr hnone),kept _,g2,g3,by simp[hsa]⟩
theorem vY {hp:Hp} (H:Holds hp w) {s:bg} {m:Nat} {xs ys:List Value} {t e:TypeId} {i:TypeInfo} {z:Value} (ht:P.underlying t=some (.slice e)) (hi:P.info? e=some i) (hz:i.zero=some z) (hzs:z.cells.size=i.size) (_hsz:0<i.size)
 (hs:bJ hp s xs e i.size) (hlen:ys.length=m*i.size) (h1:dZ ys) (h63:s.n+m≤maxLen) (hb:(s.n+m)*i.bytes≤140737488355328) (ty:TypeId) (hT:e<1000000):
 ∃ s' h w',(∀ y,Src w y m ys→(Builtin.append_ #[t,t] ty #[s.val,y.val]).run P w=.ok s'.val w')∧bJ h s' (xs++ys) e i.size∧s'.n=s.n+m∧(∀ x,s'.a=some x→(∃ z,s.a=some z∧z.1=x.1)∨hp x.1=none)∧(∀ b o,(∀ x,s.a=some x→x.1≠b)→hp b=some o→h b=some o)∧Holds h w'∧Fr w.heap.size hp h w w':=by
 by_cases hm0:m=0
 · have hys:ys=[]:=List.eq_nil_of_length_eq_zero (by rw[hlen,hm0,Nat.zero_mul])
   subst hys hm0
   refine⟨s,hp,w,fun y hy=>?_,by rw[List.append_nil];exact hs,by omega,fun x hx=>.inl ⟨x,hx,rfl⟩,fun _ _ _ h=>h,H,Fr.refl _ _ _⟩
   have hsc:s.n≤s.c:=by
    rcases hs with ⟨rfl,_⟩ | ⟨_,_,_,_,_,_,h5,_⟩
    · exact Nat.le_refl _
    · exact h5
   obtain⟨ya,yn,yc⟩:=y
   have hy0:yn=0:=hy.1
   subst hy0
   have hf:(Builtin.firstCells i.size 0 (bg.val ⟨ya,0,yc⟩)).run P w=.ok #[] w:=by cases ya<;>simp[bg.val,Builtin.firstCells,loadCells,loadCellsFrom]
   obtain⟨sa,sn,sc⟩:=s
   simp only at hsc
   simp only[bg.val] at hf
   cases sa<;>simp[bg.val,Builtin.append_,run_underlying ht,sizeOf,typeInfo,hi,Builtin.lenOf,hsc,hf,storeCells]
 have src:∀ y,Src w y m ys→∃ q:Nat×Nat,y.val=.slice (some ⟨q.1,q.2,none⟩) m y.c∧∀ j u,ys[j]? = some u→w.cell? ((⟨q.1,q.2,none⟩:Addr).add j)=some u:=fun y hy=>by
  obtain⟨rfl,h | ⟨q,hq,hcell⟩⟩:=hy
  · exact absurd h hm0
  · exact⟨q,by unfold bg.val;rw[hq];rfl,fun j u hu=>by rw[addr_add];exact hcell j u hu⟩
 have hnone:hp w.heap.size=none:=by
  cases hq:hp w.heap.size with
  | none=>rfl
  | some o=>have:=H.lt (b:=w.heap.size) (by rw[hq];simp);omega
 have hsmall:s.n+m≤9223372036854775807:=by simp only[maxLen] at h63;omega
 have grown:∀ (old:Nat) (olds:List Value),olds.length=s.n*i.size→old<s.n+m→
  bJ (hp.set w.heap.size ⟨(olds.toArray++ys.toArray++Builtin.zeroCells z.cells (grownCap w (s.n+m) old e - (s.n+m))).toList,e⟩) ⟨some (w.heap.size,0),s.n+m,grownCap w (s.n+m) old e⟩ (olds++ys) e i.size∧
  Holds (hp.set w.heap.size ⟨(olds.toArray++ys.toArray++Builtin.zeroCells z.cells (grownCap w (s.n+m) old e - (s.n+m))).toList,e⟩) (w.drew.alloc (.cells (olds.toArray++ys.toArray++Builtin.zeroCells z.cells (grownCap w (s.n+m) old e - (s.n+m))) e))∧
  Fr w.heap.size hp (hp.set w.heap.size ⟨(olds.toArray++ys.toArray++Builtin.zeroCells z.cells (grownCap w (s.n+m) old e - (s.n+m))).toList,e⟩) w (w.drew.alloc (.cells (olds.toArray++ys.toArray++Builtin.zeroCells z.cells (grownCap w (s.n+m) old e - (s.n+m))) e)):=by
  intro old olds ho hold
  have hge:=grownCap_ge w (s.n+m) old e
  have hcm:grownCap w (s.n+m) old e≤maxLen:=grownCap_le_maxLen w (s.n+m) old e h63
  have hlo:(olds++ys).length=(s.n+m)*i.size:=by rw[List.length_append,ho,hlen,Nat.add_mul]
  generalize grownCap w (s.n+m) old e=cap at hge hcm⊢
  refine⟨.inr ⟨w.heap.size,⟨(olds.toArray++ys.toArray++Builtin.zeroCells z.cells (cap - (s.n+m))).toList,e⟩,rfl,by simp only[Hp.set,if_true],rfl,?_,hge,hcm,?_⟩,?_,?_⟩
  · simp only[Array.length_toList,Array.size_append,List.size_toArray,size_zeroCells,hzs,ho,hlen,← Nat.add_mul]
    congr 1
    omega
  · simp only[Array.toList_append,List.append_assoc]
    rw[← List.append_assoc,← hlo]
    exact List.take_left.symm
  · intro b o hbo
    simp only[Hp.set] at hbo
    split at hbo
    · rename_i hb'
      subst hb'
      cases hbo
      refine .of ?_
      show (w.drew.heap.push _)[w.heap.size]? = _
      have:w.drew.heap=w.heap:=rfl
      rw[this]
      simp
    · have hlt:=H.lt (b:=b) (by rw[hbo];simp)
      have:=H b o hbo
      show gI o (w.heap.push _)[b]?
      rw[Array.getElem?_push_lt hlt]
      rw[Array.getElem?_eq_getElem hlt] at this
      exact this
  · refine⟨rfl,rfl,rfl,by show w.heap.size≤(w.heap.push _).size;simp,fun k hk _=>?_,fun k hk hk0=>?_,fun k hk hn=>hn.set (by omega)⟩
    · show (w.heap.push _)[k]? = _
      rw[Array.getElem?_push_lt hk,Array.getElem?_eq_getElem hk]
    · simp only[Hp.set]
      rw[if_neg (by omega)]
      exact hk0
 have kept:∀ (o':HO) (b:Nat) (o:HO),(∀ x,s.a=some x→x.1≠b)→hp b=some o→(hp.set w.heap.size o') b=some o:=by
  intro o' b o _ hbo
  simp only[Hp.set]
  rw[if_neg (fun e=>by rw[e,hnone] at hbo;cases hbo)]
  exact hbo
 rcases hs with ⟨rfl,rfl⟩ | ⟨b,o,hsa,hob,hoty,hol,hnc,hcm,rfl⟩
 · · obtain⟨g1,g2,g3⟩:=grown 0 [] (by simp) (by simp only[Nat.zero_add];omega)
     simp only[Nat.zero_add,List.nil_append,Array.empty_append] at g1 g2 g3
     refine⟨⟨some (w.heap.size,0),m,grownCap w m 0 e⟩,_,_,fun y hy=>?_,g1,by simp,(fun x hx=>by cases hx;exact .inr hnone),kept _,g2,g3⟩
     obtain⟨q,hyv,hcell'⟩:=src y hy
     rw[hyv]
     exact run_append_nil (P:=P) w t ty e i z ht hi hz ⟨q.1,q.2,none⟩ m y.c ys hlen hcell' (by omega) (by simp only[Nat.zero_add] at hsmall;omega) (by simp only[Nat.zero_add] at hb;omega)
 · subst hoty
   have hsv:s.val=.slice (some ⟨b,0,none⟩) s.n s.c:=by unfold bg.val;rw[hsa];rfl
   have hrow:=(H b o hob).rw hT
   by_cases hroom:s.n+m≤s.c
   · have hfit:s.n*i.size+ys.length≤o.cs.toArray.size:=by rw[hlen,List.size_toArray,hol,← Nat.add_mul];exact Nat.mul_le_mul_right _ hroom
     have hfit':=hfit
     simp only[List.size_toArray] at hfit
     refine⟨⟨some (b,0),s.n+m,s.c⟩,hp.set b ⟨o.cs.take (s.n*i.size)++ys++o.cs.drop (s.n*i.size+ys.length),o.ty⟩,_,fun y hy=>(by
      obtain⟨q,hyv,hcell'⟩:=src y hy
      have hr:=run_append_room (P:=P) w t ty o.ty i ht hi b s.n s.c o.cs.toArray hrow ⟨q.1,q.2,none⟩ m y.c ys hlen hcell' h1 hroom hfit'
      simp only at hr
      rw[hsv,hyv];exact hr),.inr ⟨b,⟨o.cs.take (s.n*i.size)++ys++o.cs.drop (s.n*i.size+ys.length),o.ty⟩,rfl,by simp only[Hp.set,if_true],rfl,?_,hroom,hcm,?_⟩,rfl,(fun x hx=>by cases hx;exact .inl ⟨_,hsa,rfl⟩),?_,?_,?_⟩
     · simp only[List.length_append,List.length_take,List.length_drop]
       omega
     · have hlo:(o.cs.take (s.n*i.size)++ys).length=(s.n+m)*i.size:=by
        rw[List.length_append,List.length_take,hlen,Nat.add_mul]
        omega
       rw[← hlo]
       exact List.take_left.symm
     · intro b' o' hne hbo
       simp only[Hp.set]
       rw[if_neg (fun e=>hne (b,0) hsa e.symm)]
       exact hbo
     · intro b' o' hbo
       simp only[Hp.set] at hbo
       split at hbo
       · rename_i hb'
         subst hb'
         cases hbo
         exact .of (setRow_heap _ _ _ _ _ _ hrow)
       · rename_i hb'
         rw[setRow_other _ _ _ _ hb']
         exact H b' o' hbo
     · refine⟨rfl,rfl,rfl,by simp,fun k hk hn=>setRow_other _ _ _ _ (hn.ne hob hT),fun k hk hn=>?_,fun k hk hn=>hn.set (hn.ne hob hT)⟩
       simp only[Hp.set]
       rw[if_neg (fun e=>by rw[e,hob] at hn;cases hn)]
       exact hn
   · have hxl:(o.cs.take (s.n*i.size)).length=s.n*i.size:=by
      rw[List.length_take,hol]
      exact Nat.min_eq_left (Nat.mul_le_mul_right _ hnc)
     have holds:∀ j u,(o.cs.take (s.n*i.size))[j]? = some u→w.cell? ((⟨b,0,none⟩:Addr).add j)=some u:=fun j u hu=>by
      rw[addr_add,iC hrow,Nat.zero_add]
      rw[List.getElem?_take] at hu
      split at hu
      · exact hu
      · cases hu
     obtain⟨g1,g2,g3⟩:=grown s.c _ hxl (by omega)
     exact⟨⟨some (w.heap.size,0),s.n+m,grownCap w (s.n+m) s.c o.ty⟩,_,_,fun y hy=>(by
      obtain⟨q,hyv,hcell'⟩:=src y hy
      rw[hsv,hyv]
      exact run_append_grow (P:=P) w t ty o.ty i z ht hi hz ⟨b,0,none⟩ s.n s.c _ hxl holds ⟨q.1,q.2,none⟩ m y.c ys hlen hcell' (by omega) (by omega) (growslice_fits (by omega) hb)),g1,rfl,(fun x hx=>by cases hx;exact .inr hnone),kept _,g2,g3⟩
theorem Ze {hp:Hp} (H:Holds hp w) {y:bg} {ys:List Value} {sz:Nat} (hy:XN hp y ys sz) (h1:dZ ys):ys.length=y.n*sz∧Src w y y.n ys:=by
 rcases hy with ⟨hy0,rfl⟩ | ⟨_,hyr⟩
 · exact⟨by rw[hy0];simp,rfl,.inl hy0⟩
 · obtain⟨q,hq,hlen,hcell⟩:=pX H hyr fun u hu=>vk (h1 u hu)
   exact⟨hlen,rfl,.inr ⟨q,hq,hcell⟩⟩
theorem vX {hp:Hp} (H:Holds hp w) {s y:bg} {xs ys:List Value} {t e:TypeId} {i:TypeInfo} {z:Value} (ht:P.underlying t=some (.slice e)) (hi:P.info? e=some i) (hz:i.zero=some z) (hzs:z.cells.size=i.size) (hsz:0<i.size)
 (hs:bJ hp s xs e i.size) (hy:XN hp y ys i.size) (h1:dZ ys) (h63:s.n+y.n≤maxLen) (hb:(s.n+y.n)*i.bytes≤140737488355328) (ty:TypeId) (hT:e<1000000):
 ∃ s' h w',(Builtin.append_ #[t,t] ty #[s.val,y.val]).run P w=.ok s'.val w'∧bJ h s' (xs++ys) e i.size∧s'.n=s.n+y.n∧(∀ x,s'.a=some x→(∃ z,s.a=some z∧z.1=x.1)∨hp x.1=none)∧(∀ b o,(∀ x,s.a=some x→x.1≠b)→hp b=some o→h b=some o)∧Holds h w'∧Fr w.heap.size hp h w w':=by
 obtain⟨hl,hs'⟩:=Ze H hy h1
 obtain⟨s',h,w',g0,g⟩:=vY H ht hi hz hzs hsz hs hl h1 h63 hb ty hT
 exact⟨s',h,w',g0 y hs',g⟩
theorem J3 (R:Rep B h0 w0 ρ st C a w) {s y:bg} {xs ys:List Value} {t e:TypeId} {i:TypeInfo} {z:Value} (ht:P.underlying t=some (.slice e)) (hi:P.info? e=some i) (hz:i.zero=some z) (hzs:z.cells.size=i.size) (hsz:0<i.size)
 (hs:bJ C.h s xs e i.size) (hy:XN C.h y ys i.size) (h1:dZ ys) (h63:s.n+y.n≤maxLen) (hb:(s.n+y.n)*i.bytes≤140737488355328) (ty:TypeId) (hT:e<1000000):
 ∃ s' h w',(Builtin.append_ #[t,t] ty #[s.val,y.val]).run P w=.ok s'.val w'∧bJ h s' (xs++ys) e i.size∧s'.n=s.n+y.n∧(∀ x,s'.a=some x→(∃ z,s.a=some z∧z.1=x.1)∨C.h x.1=none)∧(∀ b o,(∀ x,s.a=some x→x.1≠b)→C.h b=some o→h b=some o)∧Holds h w'∧Fr w.heap.size C.h h w w':=
 vX R.holds ht hi hz hzs hsz hs hy h1 h63 hb ty hT
theorem Dq (R:Rep B h0 w0 ρ st C a w) {o:Oper} {cs:List CE} {t:TypeId} (h:zx P st [] o.op=some (cs,t)):
 (execOp a.eval o).run P w=.ok (.value (.pointer (some ⟨w.heap.size,0,none⟩))) (w.alloc (.cells (cs.map (CE.den C ρ)).toArray t)):=by
 unfold zx at h
 split at h
 · rename_i t' ho
   simp only[Option.map_eq_some_iff,Option.bind_eq_some_iff] at h
   obtain⟨es,⟨z,hz,hes⟩,he⟩:=h
   cases he
   unfold jS at hz
   simp only[Option.map_eq_some_iff,Option.bind_eq_some_iff] at hz
   obtain⟨zv,⟨inf,hinf,hzv⟩,rfl⟩:=hz
   have hzero:(zeroValue t).run P w=.ok zv w:=by simp[zeroValue,typeInfo,hinf,hzv]
   have hcells:zv.cells=(cs.map (CE.den C ρ)).toArray:=by rw[iW C ρ hes]
   unfold execOp
   rw[ho]
   simp[Instr.alloc,hzero,newVar,newRow,hcells]
 · rename_i t' x ho
   simp only[Option.map_eq_some_iff] at h
   obtain⟨p,hp,he⟩:=h
   cases he
   have hx:=az R (aK _) hp
   unfold execOp
   rw[ho]
   simp[Instr.box,newVar,newRow,hx,kZ R.ones]
 · cases h
theorem zu (R:Rep B h0 w0 ρ st C a w) {ops:Array Oper} {o:Oper} {gs:Gs} {K:St→Fm} (hw:Region.wanted o (yielded ops a.tmps)=true↔dA gs a.tmps) (hs:(WT st (zx P st gs o.op) gs o.dst K).says E C)
 {Next:Act→World→Prop} {Q:Exit→Act→World→Prop} (hK:∀ ρ st D a w,Ext C D→Rep B h0 w0 ρ st D a w→(K st).says E D→Next a w):jT P ops o Next Q a w:=by
 unfold WT at hs
 split at hs
 · rename_i cs t hnew
   split at hs
   · rename_i hck
     obtain⟨rfl,hblw,hpl⟩:=hck
     have hnone:C.h w.heap.size=none:=by
      cases hq:C.h w.heap.size with
      | none=>rfl
      | some o=>have:=R.holds.lt (b:=w.heap.size) (by rw[hq];simp);omega
     have hsay:=hs w.heap.size hnone
     rw[jc (ρ:=ρ) hpl] at hsay
     have R1:=FB (n:={ st.n with p:=st.n.p+1 }) (x:=⟨[],[],[],[],[],[some (w.heap.size,0)]⟩) R hblw rfl (fun u hu=>by cases hu) (cs.map (CE.den C ρ)) t (jv R.ones ρ cs)
     refine gp (v:=.pointer (some ⟨w.heap.size,0,none⟩)) (w':=w.alloc (.cells (cs.map (CE.den C ρ)).toArray t)) (Dq R hnew) (hK ρ _ _ _ _ ((Ext.push C _).trans (Ext.heap _ _)) (dh R1 o.dst _ _ ?_) hsay) (fun h=>absurd (hw.2 (aK _)) h)
     show _=Value.pointer (((C.p++[some (w.heap.size,0)]).getD st.n.p none).map fun x:Nat×Nat=>(⟨x.1,x.2,none⟩:Addr))
     rw[← R.cp]
     simp
   · exact hs.elim
 · exact hs.elim
theorem Uc (v:Value) (n:Nat):madeCells #[v] n=(List.replicate n v).toArray:=by
 apply Array.ext'
 rw[madeCells,Array.toList_map,Array.toList_range]
 refine List.eq_replicate_iff.2 ⟨by simp,fun b hb=>?_⟩
 obtain⟨i,_,rfl⟩:=List.mem_map.1 hb
 simp[Nat.mod_one]
theorem LJ (R:Rep B h0 w0 ρ st C a w) {ops:Array Oper} {o:Oper} {gs:Gs} {t:TypeId} {x y:Operand} {K:St→Fm} (ho:o.op=.makeSlice t x y) (hw:Region.wanted o (yielded ops a.tmps)=true↔dA gs a.tmps) (hs:(YY P st gs t x y o.dst K).says E C)
 {Next:Act→World→Prop} {Q:Exit→Act→World→Prop} (hK:∀ ρ st D a w,Ext C D→Rep B h0 w0 ρ st D a w→(K st).says E D→Next a w):jT P ops o Next Q a w:=by
 unfold YY at hs
 split at hs
 · rename_i kl l kc c e hx hy hu
   split at hs
   · rename_i i z hi hz
     split at hs
     · rename_i hck
       obtain⟨rfl,rfl,hblw,hsz,hby,hpl⟩:=hck
       obtain⟨n0,n1,hs⟩:=hs
       simp only[Option.bind_eq_some_iff] at hz
       obtain⟨zs,hzs,hz⟩:=hz
       unfold jS at hzs
       simp only[Option.map_eq_some_iff,Option.bind_eq_some_iff] at hzs
       obtain⟨zv,⟨inf,hinf,hzv⟩,rfl⟩:=hzs
       obtain rfl:inf=i:=Option.some.inj (hinf.symm.trans hi)
       have hzc:zv.cells=#[z.den C ρ]:=by
        apply Array.ext'
        exact (iW C ρ hz).symm
       have h1:a.eval x=.int kl (c.den C):=az R (aK _) hx
       have h2:a.eval y=.int kc (c.den C):=az R (aK _) hy
       have hnone:C.h w.heap.size=none:=by
        cases hq:C.h w.heap.size with
        | none=>rfl
        | some o=>have:=R.holds.lt (b:=w.heap.size) (by rw[hq];simp);omega
       have hsay:=hs w.heap.size hnone
       rw[CE.eF (σ:=ρ) z hpl] at hsay
       have hm:madeCells zv.cells ((c.den C).toNat*inf.size)=(List.replicate (c.den C).toNat (z.den C ρ)).toArray:=by rw[hzc,hsz,Nat.mul_one,Uc]
       have hb:(inf.bytes:Int)*c.den C≤281474976710656:=by
        have h3:(inf.bytes:Int)*c.den C≤1024*16777216:=Int.mul_le_mul (by omega) n1 n0 (by omega)
        omega
       have hrun:=run_make (P:=P) w t e inf zv hu hinf hzv kl kc (c.den C) (c.den C) n0 (Int.le_refl _) hb (by omega)
       rw[hm] at hrun
       have R1:=FB (n:={ st.n with l:=st.n.l+1 }) (x:=⟨[],[],[],[],[⟨some (w.heap.size,0),(c.den C).toNat,(c.den C).toNat⟩],[]⟩) R hblw rfl (fun u hu=>by cases hu) (List.replicate (c.den C).toNat (z.den C ρ)) e (fun u hu=>by rw[List.eq_of_mem_replicate hu];exact Gx R.ones ρ z)
       refine gp (v:=.slice (some ⟨w.heap.size,0,none⟩) (c.den C).toNat (c.den C).toNat) (w':=w.alloc (.cells (List.replicate (c.den C).toNat (z.den C ρ)).toArray e)) ?_ (hK ρ _ _ _ _ ((Ext.push C _).trans (Ext.heap _ _)) (dh R1 o.dst _ _ ?_) hsay) (fun h=>absurd (hw.2 (aK _)) h)
       · unfold execOp
         rw[ho]
         simp only[h1,h2,Sem.run_bind,hrun]
         rfl
       · show _=((C.l++[(⟨some (w.heap.size,0),(c.den C).toNat,(c.den C).toNat⟩:bg)]).getD st.n.l ⟨none,0,0⟩).val
         rw[← R.cl]
         simp[bg.val]
     · exact hs.elim
   · exact hs.elim
 · exact hs.elim
theorem Xp (R:Rep B h0 w0 ρ st C a w) (hb:st.blw=true) {k:Nat} {b:ou} (hk:st.m[k]? = some b) (hl:st.m.length=k+1)
 (_ht:(st.t.all fun v=>decide (v=.p (.one (.own k 0)))||v.qA k)=true):
 Rep B h0 w0 ρ { t:=st.t.map (Y8 k st.n.p),m:=st.m.dropLast,n:={ st.n with p:=st.n.p+1 } } ((C.push ⟨[],[],[],[],[],[some (ρ k,0)]⟩).heap (C.h.set (ρ k) ⟨b.cells.map (CE.den C ρ),b.ty⟩)) a w:=by
 simp only[St.blw,Bool.and_eq_true] at hb
 have hx:Ext C ((C.push ⟨[],[],[],[],[],[some (ρ k,0)]⟩).heap (C.h.set (ρ k) ⟨b.cells.map (CE.den C ρ),b.ty⟩)):=(Ext.push C _).trans (Ext.heap _ _)
 have hA:=hx.Ed R.has
 have hH:=(R.has.push (M:={ st.n with p:=st.n.p+1 }) (x:=⟨[],[],[],[],[],[some (ρ k,0)]⟩) rfl).heap (C.h.set (ρ k) ⟨b.cells.map (CE.den C ρ),b.ty⟩)
 have hd:st.m.dropLast.length=k:=by rw[List.length_dropLast,hl];rfl
 have hm:∀ (j:Nat) (c:ou),st.m.dropLast[j]? = some c→st.m[j]? = some c:=fun j c h=>by
  have hj:=(List.getElem?_eq_some_iff.1 h).1
  rw[List.dropLast_eq_take,List.getElem?_take] at h
  split at h
  · exact h
  · cases h
 have hfk:=R.fresh k (by omega)
 have hlt:∀ j,j<st.m.dropLast.length→j<st.m.length:=fun j h=>by omega
 have hlk:∀ j,j<st.m.dropLast.length→j≠k:=fun j h=>by omega
 refine⟨R.defers,by rw[R.size];exact (List.length_map ..).symm,?_,?_,fun j hj=>R.fresh j (hlt j hj),fun i j hi hj=>R.inj i j (hlt i hi) (hlt j hj),?_,?_,?_,R.base,hH.i,hH.b,hH.s,hH.v,hH.l,hH.p,gV R.ones (fun u hu=>by cases hu)⟩
 · intro i v h
   simp only[List.getElem?_map,Option.map_eq_some_iff] at h
   obtain⟨u,hu,rfl⟩:=h
   have hs:=R.slots i u hu
   unfold Y8
   split
   · rename_i he
     subst he
     have hs':a.tmps.getD i undef=.pointer (some ⟨ρ k,0,none⟩):=hs
     show a.tmps.getD i undef=Value.pointer (((C.p++[some (ρ k,0)]).getD st.n.p none).map fun x:Nat×Nat=>(⟨x.1,x.2,none⟩:Addr))
     rw[hs',← R.cp]
     simp
   · exact VE.pU hA ρ _ _ u (List.all_eq_true.1 hb.1 u (List.mem_of_getElem? hu)) hs
 · intro j c h
   have h':=hm j c h
   rw[R.blocks j c h',jb hA ρ c.cells (List.all_eq_true.1 hb.2 c (List.mem_of_getElem? h'))]
 · intro j hj
   show (C.h.set (ρ k) _) (ρ j)=none
   simp only[Hp.set]
   rw[if_neg (fun e=>hlk j hj (R.inj j k (hlt j hj) (by omega) e))]
   exact R.free j (hlt j hj)
 · intro c y hy
   have hy':(C.h.set (ρ k) ⟨b.cells.map (CE.den C ρ),b.ty⟩) c=some y:=hy
   simp only[Hp.set] at hy'
   by_cases he:c=ρ k
   · rw[if_pos he] at hy'
     cases hy'
     subst he
     exact .of (R.blocks k b hk) (.inr (jv R.ones ρ b.cells))
   · rw[if_neg he] at hy'
     exact R.holds c y hy'
 · refine⟨R.fr.os,R.fr.tape,R.fr.output,R.fr.size,R.fr.block,fun c hc hn=>?_,fun c hc hn=>(R.fr.un c hc hn).set (fun e=>by subst e;rcases hfk with h | h;omega;exact h hn)⟩
   show (C.h.set (ρ k) _) c=none
   simp only[Hp.set]
   rw[if_neg (fun e=>by subst e;rcases hfk with h | h;omega;exact h (.none hn))]
   exact R.fr.ghost c hc hn
theorem UT (R:Rep B h0 w0 ρ st C a w) (hb:st.blw=true) {k len:Nat} {b:ou} (hk:st.m[k]? = some b) (hl:st.m.length=k+1)
 (_ht:(st.t.all fun v=>decide (v=.p (.one (.osl k len)))||v.qA k)=true):
 Rep B h0 w0 ρ { t:=st.t.map (UL k len st.n.l),m:=st.m.dropLast,n:={ st.n with l:=st.n.l+1 } } ((C.push ⟨[],[],[],[],[⟨some (ρ k,0),len,len⟩],[]⟩).heap (C.h.set (ρ k) ⟨b.cells.map (CE.den C ρ),b.ty⟩)) a w:=by
 simp only[St.blw,Bool.and_eq_true] at hb
 have hx:Ext C ((C.push ⟨[],[],[],[],[⟨some (ρ k,0),len,len⟩],[]⟩).heap (C.h.set (ρ k) ⟨b.cells.map (CE.den C ρ),b.ty⟩)):=(Ext.push C _).trans (Ext.heap _ _)
 have hA:=hx.Ed R.has
 have hH:=(R.has.push (M:={ st.n with l:=st.n.l+1 }) (x:=⟨[],[],[],[],[⟨some (ρ k,0),len,len⟩],[]⟩) rfl).heap (C.h.set (ρ k) ⟨b.cells.map (CE.den C ρ),b.ty⟩)
 have hd:st.m.dropLast.length=k:=by rw[List.length_dropLast,hl];rfl
 have hm:∀ (j:Nat) (c:ou),st.m.dropLast[j]? = some c→st.m[j]? = some c:=fun j c h=>by
  have hj:=(List.getElem?_eq_some_iff.1 h).1
  rw[List.dropLast_eq_take,List.getElem?_take] at h
  split at h
  · exact h
  · cases h
 have hfk:=R.fresh k (by omega)
 have hlt:∀ j,j<st.m.dropLast.length→j<st.m.length:=fun j h=>by omega
 have hlk:∀ j,j<st.m.dropLast.length→j≠k:=fun j h=>by omega
 refine⟨R.defers,by rw[R.size];exact (List.length_map ..).symm,?_,?_,fun j hj=>R.fresh j (hlt j hj),fun i j hi hj=>R.inj i j (hlt i hi) (hlt j hj),?_,?_,?_,R.base,hH.i,hH.b,hH.s,hH.v,hH.l,hH.p,gV R.ones (fun u hu=>by cases hu)⟩
 · intro i v h
   simp only[List.getElem?_map,Option.map_eq_some_iff] at h
   obtain⟨u,hu,rfl⟩:=h
   have hs:=R.slots i u hu
   unfold UL
   split
   · rename_i he
     subst he
     have hs':a.tmps.getD i undef=.slice (some ⟨ρ k,0,none⟩) len len:=hs
     show a.tmps.getD i undef=((C.l++[(⟨some (ρ k,0),len,len⟩:bg)]).getD st.n.l ⟨none,0,0⟩).val
     rw[hs',← R.cl]
     simp[bg.val]
   · exact VE.pU hA ρ _ _ u (List.all_eq_true.1 hb.1 u (List.mem_of_getElem? hu)) hs
 · intro j c h
   have h':=hm j c h
   rw[R.blocks j c h',jb hA ρ c.cells (List.all_eq_true.1 hb.2 c (List.mem_of_getElem? h'))]
 · intro j hj
   show (C.h.set (ρ k) _) (ρ j)=none
   simp only[Hp.set]
   rw[if_neg (fun e=>hlk j hj (R.inj j k (hlt j hj) (by omega) e))]
   exact R.free j (hlt j hj)
 · intro c y hy
   have hy':(C.h.set (ρ k) ⟨b.cells.map (CE.den C ρ),b.ty⟩) c=some y:=hy
   simp only[Hp.set] at hy'
   by_cases he:c=ρ k
   · rw[if_pos he] at hy'
     cases hy'
     subst he
     exact .of (R.blocks k b hk) (.inr (jv R.ones ρ b.cells))
   · rw[if_neg he] at hy'
     exact R.holds c y hy'
 · refine⟨R.fr.os,R.fr.tape,R.fr.output,R.fr.size,R.fr.block,fun c hc hn=>?_,fun c hc hn=>(R.fr.un c hc hn).set (fun e=>by subst e;rcases hfk with h | h;omega;exact h hn)⟩
   show (C.h.set (ρ k) _) c=none
   simp only[Hp.set]
   rw[if_neg (fun e=>by subst e;rcases hfk with h | h;omega;exact h (.none hn))]
   exact R.fr.ghost c hc hn
theorem MI (R:Rep B h0 w0 ρ st C a w) {K:St→Fm} (hs:(Xk st K).says E C):∃ C' st',Ext C C'∧Rep B h0 w0 ρ st' C' a w∧(K st').says E C':=by
 unfold Xk at hs
 split at hs
 · rename_i k len _
   split at hs
   · rename_i b hb
     split at hs
     · rename_i hck
       obtain⟨hblw,hl,hpl,ht⟩:=hck
       have hsay:=hs (ρ k) (R.free k (by omega))
       rw[jc (ρ:=ρ) hpl] at hsay
       exact⟨_,_,(Ext.push C _).trans (Ext.heap _ _),UT R hblw hb hl ht,hsay⟩
     · exact hs.elim
   · exact hs.elim
 · exact⟨C,st,Ext.refl C,R,hs⟩
theorem wO (R:Rep B h0 w0 ρ st C a w) {o:Oper} {cs:List CE} {e:TypeId} {len:Nat} (h:jI P st [] o.op=some (cs,e,len)):
 (execOp a.eval o).run P w=.ok (.value (.slice (some ⟨w.heap.size,0,none⟩) len len)) (w.alloc (.cells (cs.map (CE.den C ρ)).toArray e)):=by
 unfold jI at h
 split at h
 · rename_i t len' parts ho
   split at h
   · rename_i ps e' hps hu
     split at h
     · rename_i n z hn hz
       split at h
       · rename_i hck
         obtain⟨hlim,hzl,hn0⟩:=hck
         split at h
         · rename_i cs' hcs
           cases h
           simp only[Option.bind_eq_some_iff] at hz
           obtain⟨zs,hzs,hz⟩:=hz
           unfold jS at hzs
           simp only[Option.map_eq_some_iff,Option.bind_eq_some_iff] at hzs
           obtain⟨zv,⟨inf,hinf,hzv⟩,rfl⟩:=hzs
           have hzero:(zeroValue e).run P w=.ok zv w:=by simp[zeroValue,typeInfo,hinf,hzv]
           have hzc:zv.cells=(z.map (CE.den C ρ)).toArray:=by rw[iW C ρ hz]
           have hfill:=sJ (C:=C) (ρ:=ρ) R.ones (fun i=>some (i*n,n)) ps _ _ hcs
           have hparts:=parts_eval R (aK _) hps
           have hbase:((Array.range (len*n)).map fun i=>zv.cells[i % zv.cells.size]!)=(((List.range (len*n)).map fun i=>(z[i % n]?).getD (.c .undef)).map (CE.den C ρ)).toArray:=by
            apply Array.ext'
            simp only[Array.toList_map,Array.toList_range,List.map_map]
            refine List.map_congr_left fun i hi=>?_
            have hlt:i % n<z.length:=by rw[hzl];exact Nat.mod_lt _ (by omega)
            simp only[Function.comp,hzc,List.size_toArray,List.length_map,hzl]
            rw[List.getElem?_eq_getElem hlt]
            simp[hlt]
           unfold execOp
           rw[ho]
           simp only
           suffices hb:(Instr.buildSlice t len (parts.map fun x=>(x.1,a.eval x.2))).run P w=.ok (.slice (some ⟨w.heap.size,0,none⟩) len len) (w.alloc (.cells (cs.map (CE.den C ρ)).toArray e)) by
            rw[Sem.run_bind,hb];rfl
           unfold Instr.buildSlice
           rw[Sem.run_bind,run_underlying hu,Result.andThen_ok]
           try simp only
           rw[Sem.run_bind,bf hn,Result.andThen_ok,if_neg (by omega)]
           have e3:(Array.map (fun x=>(x.1,a.eval x.2)) parts).toList=ps.map fun x=>(x.1,x.2.den C ρ):=by
            rw[← hparts];simp
           by_cases h0:len*n=0
           · have hbz:((Array.range (len*n)).map fun i=>(#[]:Array Value)[i % (#[]:Array Value).size]!)=(((List.range (len*n)).map fun i=>(z[i % n]?).getD (.c .undef)).map (CE.den C ρ)).toArray:=by
              rw[h0];simp
             rw[if_pos h0,Sem.run_bind,Sem.run_pure,Result.andThen_ok,hbz,e3,hfill]
             rfl
           · rw[if_neg h0,Sem.run_bind,hzero,Result.andThen_ok,Sem.run_bind,Sem.run_pure,Result.andThen_ok,hbase,e3,hfill]
             rfl
         · cases h
       · cases h
     · cases h
   · cases h
 · cases h
theorem LM (R:Rep B h0 w0 ρ st C a w) {o:Oper} {cs:List CE} {t:TypeId} {sl:Option Nat} (h:qZ P st [] o.op=some (cs,t,sl)) {σ:Nat→Nat} {k:Nat} (hσ:σ k=w.heap.size):
 (execOp a.eval o).run P w=.ok (.value ((zy k sl).den C σ)) (w.alloc (.cells (cs.map (CE.den C ρ)).toArray t)):=by
 unfold qZ at h
 split at h
 · rename_i hn
   cases h
   rw[Dq R hn]
   simp only[zy,CE.den,hσ]
 · simp only[Option.map_eq_some_iff] at h
   obtain⟨⟨cs',t',n⟩,hn,he⟩:=h
   cases he
   rw[wO R hn]
   simp only[zy,CE.den,hσ]
theorem MH (R:Rep B h0 w0 ρ st C a w) {ops:Array Oper} {o:Oper} {gs:Gs} {f k:Nat} {K:St→Fm} (hw:Region.wanted o (yielded ops a.tmps)=true↔dA gs a.tmps) (hc:Kt st gs o.op=some (f,k)) (hs:(Y7 st gs f k o.dst K).says E C)
 {Next:Act→World→Prop} {Q:Exit→Act→World→Prop} (hK:∀ ρ st D a w,Ext C D→Rep B h0 w0 ρ st D a w→(K st).says E D→Next a w):jT P ops o Next Q a w:=by
 unfold Y7 at hs
 split at hs
 · rename_i b hb
   split at hs
   · rename_i hck
     obtain⟨rfl,hblw,hl,hpl,hok,ht⟩:=hck
     have hk:k<st.m.length:=by omega
     have hsay:=hs (ρ k) (R.free k hk)
     rw[jc (ρ:=ρ) hpl] at hsay
     have R1:=Xp R hblw hb hl ht
     unfold Kt at hc
     split at hc
     · rename_i f' first captured ho
       split at hc
       · rename_i x hf hx
         split at hc
         · rename_i k' hop
           cases hc
           have hv:=az R (aK _) hop
           have hf2:first=#[]:=Array.toList_inj.1 hf
           have hx2:captured=#[x]:=Array.toList_inj.1 hx
           refine gp (v:=.func (.func f) #[] #[.pointer (some ⟨ρ k,0,none⟩)]) (w':=w) ?_ (hK ρ _ _ _ _ ((Ext.push C _).trans (Ext.heap _ _)) (dh R1 o.dst _ _ ?_) hsay) (fun h=>absurd (hw.2 (aK _)) h)
           · unfold execOp
             rw[ho,hf2,hx2]
             refine dM ?_
             rw[show Array.map a.eval #[x]=#[a.eval x] from Array.toList_inj.1 (by rw[Array.toList_map];rfl),show Array.map a.eval #[]=#[] from Array.toList_inj.1 (by rw[Array.toList_map];rfl),hv]
             rfl
           · show _=Value.func (.func f) #[] ([st.n.p].map fun n=>Value.pointer (((C.p++[some (ρ k,0)]).getD n none).map fun x:Nat×Nat=>(⟨x.1,x.2,none⟩:Addr))).toArray
             rw[← R.cp]
             simp
         · cases hc
       · cases hc
     · cases hc
   · exact hs.elim
 · exact hs.elim
set_option maxHeartbeats 2000000 in
theorem lK (hE:Good P E) (R:Rep B h0 w0 ρ st C a w) {nw:iy} {ops:Array Oper} {o:Oper} {K:St→Fm} (hs:(yM nw P ops o st K).says E C)
 {Next:Act→World→Prop} {Q:Exit→Act→World→Prop} (hK:∀ ρ st D a w,Ext C D→Rep B h0 w0 ρ st D a w→(K st).says E D→Next a w):jT P ops o Next Q a w:=by
 unfold yM at hs
 split at hs
 · exact hs.elim
 rename_i gs hgs
 have hw:=iG R hgs
 split at hs
 · exact hs.elim
 rename_i g hg
 have hgi:=uK R gs [] g (aK _) hg
 split at hs
 · -- a call
   rename_i f vas r n hcal
   · split at hs
     · exact hs.elim
     · rename_i hck
       simp only[Bool.not_eq_true,Bool.not_eq_false',Bool.and_eq_true,decide_eq_true_eq] at hck
       obtain⟨⟨⟨hblw,hpl⟩,hrp⟩,hn⟩:=hck
       have hrn:∀ D,r.den D aP=r.den D ρ:=fun D=>by
        cases r with
        | p x=>exact x.eF hrp
        | tup l=>exact congrArg (fun x=>Value.tuple (List.toArray x)) (List.map_congr_left fun x hx=>PE.eF x (List.all_eq_true.1 hrp x hx))
        | _=>rfl
       have main:∀ (v:VE) (hv:∀ D u (t:Array Value),dA gs t→u=r.den D ρ→v.holds D ρ t u) (hv0:∀ D (t:Array Value),¬ dA gs t→v.holds D ρ t undef)
        (hsay:Fm.says E (.call g false f vas r (n.sub st.n) (K ({ st with n:=n }.lF o.dst v))) C),jT P ops o Next Q a w:=by
        intro v hv hv0 hsay
        obtain⟨hy,hno⟩:=hsay
        refine lq hw hgi (fun hgt hc=>?_) (fun hgf hc=>?_)
        · have hspec:=hy hgt
          refine Dx hE R hc hcal hpl hspec ?_
          rintro u h w' ⟨_,hu⟩ hH hF
          rw[ah] at hu
          obtain⟨x,hx,hones,hval,hsays⟩:=hu
          have hex:Ext C ((C.push x).heap h):=(Ext.push C x).trans (Ext.heap _ h)
          have R1:=jR (n:=n) R hblw hex ((R.has.push (by rw[hx];exact hn)).heap h) (gV R.ones hones) hH hF
          refine hK ρ _ _ _ _ hex (dh R1 o.dst v u ?_) hsays
          exact hv _ _ _ hc (by rw[hval,hrn,VE.yu])
        · have hsays:=hno hgf
          have hones:dZ (Inc.blank (n.sub st.n)).v:=fun u hu=>by rw[List.eq_of_mem_replicate hu];rfl
          have hcnt:(Inc.blank (n.sub st.n)).cnt=n.sub st.n:=by simp[Inc.blank,Inc.cnt]
          have R1:=ui R hblw (x:=Inc.blank (n.sub st.n)) (n:=n) (by rw[hcnt];exact hn) hones
          exact hK ρ _ _ _ _ (Ext.push C _) (dh R1 o.dst v undef (hv0 _ _ hc)) hsays
       split at hs
       · rename_i x hrx
         exact main _ (fun D u t hc hu=>jq hc (by rw[hu];rfl)) (fun D t hc=>jJ hc) hs
       · rename_i hrx
         split at hs
         · rename_i hg0
           subst hg0
           refine main r (fun D u t hc hu=>?_) (fun D t hc=>absurd (aK t) hc) hs
           cases r with
           | dead=>trivial
           | p x=>exact absurd rfl (hrx x)
           | tup l=>exact hu
           | wg gs x=>exact absurd hcal (Qu _ _)
         · exact hs.elim
 split at hs
 · -- alloc
   rename_i t ho
   split at hs
   · exact zu R hw (ho▸hs) hK
   split at hs
   · rename_i z hz
     split at hs
     · rename_i cs hcs
       split at hs
       · rename_i hck
         obtain⟨rfl,hm,hc⟩:=hck
         unfold jS at hz
         simp only[Option.map_eq_some_iff,Option.bind_eq_some_iff] at hz
         obtain⟨zv,⟨inf,hinf,hzv⟩,rfl⟩:=hz
         have hzero:(zeroValue t).run P w=.ok zv w:=by simp[zeroValue,typeInfo,hinf,hzv]
         obtain⟨σ,hσ,R1⟩:=vH R hm hc t
         have hcells:zv.cells=(cs.map (CE.den C ρ)).toArray:=by rw[iW C ρ hcs]
         refine gp (v:=.pointer (some ⟨w.heap.size,0,none⟩)) (w':=w.alloc (.cells (cs.map (CE.den C ρ)).toArray t)) ?_ ?_ (fun h=>absurd (hw.2 (aK _)) h)
         · unfold execOp
           rw[ho]
           simp[Instr.alloc,hzero,newVar,newRow,hcells]
         · refine hK σ _ C _ _ (Ext.refl C) (dh R1 o.dst _ _ ?_) hs
           show _=Value.pointer (some ⟨σ st.m.length,0,none⟩)
           rw[hσ]
       · exact hs.elim
     · exact hs.elim
   · exact hs.elim
 · -- box
   rename_i t x ho
   split at hs
   · exact zu R hw (ho▸hs) hK
   split at hs
   · rename_i p hp
     split at hs
     · rename_i hck
       obtain⟨rfl,hm,hc⟩:=hck
       obtain⟨σ,hσ,R1⟩:=vH R hm hc t
       have hx:=az R (aK _) hp
       refine gp (v:=.pointer (some ⟨w.heap.size,0,none⟩)) (w':=w.alloc (.cells (p.cells.map (CE.den C ρ)).toArray t)) ?_ ?_ (fun h=>absurd (hw.2 (aK _)) h)
       · unfold execOp
         rw[ho]
         simp[Instr.box,newVar,newRow,hx,kZ R.ones]
       · refine hK σ _ C _ _ (Ext.refl C) (dh R1 o.dst _ _ ?_) hs
         show _=Value.pointer (some ⟨σ st.m.length,0,none⟩)
         rw[hσ]
     · exact hs.elim
   · exact hs.elim
 · -- a slice that is written out
   rename_i t len parts ho
   split at hs
   · rename_i ps e hps hu
     split at hs
     · rename_i n z hn hz
       split at hs
       · rename_i hck
         obtain⟨rfl,hblw,hlim,hzl,hn0⟩:=hck
         split at hs
         · rename_i cs hcs
           split at hs
           · rename_i hpl
             simp only[Bool.and_eq_true] at hpl
             simp only[Option.bind_eq_some_iff] at hz
             obtain⟨zs,hzs,hz⟩:=hz
             unfold jS at hzs
             simp only[Option.map_eq_some_iff,Option.bind_eq_some_iff] at hzs
             obtain⟨zv,⟨inf,hinf,hzv⟩,rfl⟩:=hzs
             have hzero:(zeroValue e).run P w=.ok zv w:=by simp[zeroValue,typeInfo,hinf,hzv]
             have hzc:zv.cells=(z.map (CE.den C ρ)).toArray:=by rw[iW C ρ hz]
             have hfill:=sJ (C:=C) (ρ:=ρ) R.ones (fun i=>some (i*n,n)) ps _ _ hcs
             have hparts:=parts_eval R (aK _) hps
             have hbase:((Array.range (len*n)).map fun i=>zv.cells[i % zv.cells.size]!)=(((List.range (len*n)).map fun i=>(z[i % n]?).getD (.c .undef)).map (CE.den C ρ)).toArray:=by
              apply Array.ext'
              simp only[Array.toList_map,Array.toList_range,List.map_map]
              refine List.map_congr_left fun i hi=>?_
              have hlt:i % n<z.length:=by rw[hzl];exact Nat.mod_lt _ (by omega)
              simp only[Function.comp,hzc,List.size_toArray,List.length_map,hzl]
              rw[List.getElem?_eq_getElem hlt]
              simp[hlt]
             have hd:∀ D:Ctx,D.l=C.l++[⟨some (w.heap.size,0),len,len⟩]→(PE.one (.sl (.x st.n.l))).den D ρ=.slice (some ⟨w.heap.size,0,none⟩) len len:=by
              intro D hD
              show (D.l.getD st.n.l ⟨none,0,0⟩).val=_
              rw[hD,← R.cl]
              simp[bg.val]
             have hnone:C.h w.heap.size=none:=by
              cases hq:C.h w.heap.size with
              | none=>rfl
              | some o=>have:=R.holds.lt (b:=w.heap.size) (by rw[hq];simp);omega
             have hsay:=hs w.heap.size hnone
             rw[jc (ρ:=ρ) hpl.1] at hsay
             have R1:=FB (n:={ st.n with l:=st.n.l+1 }) (x:=⟨[],[],[],[],[⟨some (w.heap.size,0),len,len⟩],[]⟩) R hblw rfl (fun u hu=>by cases hu) (cs.map (CE.den C ρ)) e (jv R.ones ρ cs)
             refine gp (v:=.slice (some ⟨w.heap.size,0,none⟩) len len) (w':=w.alloc (.cells (cs.map (CE.den C ρ)).toArray e)) ?_ (hK ρ _ _ _ _ ((Ext.push C _).trans (Ext.heap _ _)) (dh R1 o.dst (.p (.one (.sl (.x st.n.l)))) _ (hd ((C.push ⟨[],[],[],[],[⟨some (w.heap.size,0),len,len⟩],[]⟩).heap (C.h.set w.heap.size ⟨cs.map (CE.den C ρ),e⟩)) rfl).symm) hsay) (fun h=>absurd (hw.2 (aK _)) h)
             unfold execOp
             rw[ho]
             simp only
             suffices hb:(Instr.buildSlice t len (parts.map fun x=>(x.1,a.eval x.2))).run P w=.ok (.slice (some ⟨w.heap.size,0,none⟩) len len) (w.alloc (.cells (cs.map (CE.den C ρ)).toArray e)) by
              rw[Sem.run_bind,hb];rfl
             unfold Instr.buildSlice
             rw[Sem.run_bind,run_underlying hu,Result.andThen_ok]
             try simp only
             rw[Sem.run_bind,bf hn,Result.andThen_ok,if_neg (by omega)]
             have e3:(Array.map (fun x=>(x.1,a.eval x.2)) parts).toList=ps.map fun x=>(x.1,x.2.den C ρ):=by
              rw[← hparts];simp
             by_cases h0:len*n=0
             · have hbz:((Array.range (len*n)).map fun i=>(#[]:Array Value)[i % (#[]:Array Value).size]!)=(((List.range (len*n)).map fun i=>(z[i % n]?).getD (.c .undef)).map (CE.den C ρ)).toArray:=by
                rw[h0];simp
               rw[if_pos h0,Sem.run_bind,Sem.run_pure,Result.andThen_ok,hbz,e3,hfill]
               rfl
             · rw[if_neg h0,Sem.run_bind,hzero,Result.andThen_ok,Sem.run_bind,Sem.run_pure,Result.andThen_ok,hbase,e3,hfill]
               rfl
           · exact hs.elim
         · exact hs.elim
       · exact hs.elim
     · exact hs.elim
   · exact hs.elim
 · -- append
   rename_i args ts ho
   split at hs
   · rename_i s y t t' has hts
     split at hs
     · rename_i e zt hu _
       split at hs
       · rename_i i hi
         split at hs
         · rename_i z hz
           split at hs
           · rename_i hck
             obtain⟨rfl,rfl,hblw,hzs,hsz,hT⟩:=hck
             obtain⟨xs,ys,h1,h2,h3,h4,h5,hsay⟩:=hs
             have hargs:=mQ R (aK _) has
             obtain⟨s',h,w',hrun,hown,hn,hsame,hkept,hH,hF⟩:=J3 R hu hi hz hzs hsz h1 h2 h3 h4 h5 o.type hT
             have hsay':=hsay s' h hown hn hsame hkept
             have hex:Ext C ((C.push ⟨[],[],[],[],[s'],[]⟩).heap h):=(Ext.push C _).trans (Ext.heap _ h)
             have R1:=jR (n:={ st.n with l:=st.n.l+1 }) R hblw hex ((R.has.push rfl).heap h) (gV R.ones (fun u hu=>by cases hu)) hH hF
             refine gp (v:=s'.val) (w':=w') ?_ (hK ρ _ _ _ _ hex (dh R1 o.dst _ _ ?_) hsay') (fun h=>absurd (hw.2 (aK _)) h)
             · unfold execOp
               rw[ho]
               have ha:args.map a.eval=#[(s.den C).val,(y.den C).val]:=by
                have hargs:args.toList.map a.eval=[(s.den C).val,(y.den C).val]:=hargs
                apply Array.ext'
                simpa using hargs
               have ht:ts=#[t',t']:=by apply Array.ext';simpa using hts
               simp[resolve,invoke,builtin,ha,ht,hrun]
             · show _=((C.l++[s']).getD st.n.l ⟨none,0,0⟩).val
               rw[← R.cl]
               simp
           · exact hs.elim
         · exact hs.elim
       · exact hs.elim
     · exact hs.elim
   · rename_i s y t t' has hts
     split at hs
     · rename_i e hu hu2
       split at hs
       · rename_i i hi
         split at hs
         · rename_i z hz
           split at hs
           · rename_i hck
             obtain⟨rfl,rfl,hblw,hsz,hby,hT⟩:=hck
             obtain⟨xs,h1,h2,hsay⟩:=hs
             have hargs:=mQ R (aK _) has
             have hbl:(Go.Proofs.YtgpanefhaiohnaaGreatDoor.B (y.den C)).size=(y.den C).length:=by simp[Go.Proofs.YtgpanefhaiohnaaGreatDoor.B,ByteArray.size]
             obtain⟨s',h,w',hrun,hown,hn,hsame,hkept,hH,hF,_⟩:=xR R.holds hu hu2 hi hz hsz hby h1 (Go.Proofs.YtgpanefhaiohnaaGreatDoor.B (y.den C)) (by rw[hbl];exact h2) o.type hT
             rw[uq] at hown
             rw[hbl] at hn
             have hsay':=hsay s' h hown hn hsame hkept
             have hex:Ext C ((C.push ⟨[],[],[],[],[s'],[]⟩).heap h):=(Ext.push C _).trans (Ext.heap _ h)
             have R1:=jR (n:={ st.n with l:=st.n.l+1 }) R hblw hex ((R.has.push rfl).heap h) (gV R.ones (fun u hu=>by cases hu)) hH hF
             refine gp (v:=s'.val) (w':=w') ?_ (hK ρ _ _ _ _ hex (dh R1 o.dst _ _ ?_) hsay') (fun h=>absurd (hw.2 (aK _)) h)
             · unfold execOp
               rw[ho]
               have ha:args.map a.eval=#[(s.den C).val,.string (Go.Proofs.YtgpanefhaiohnaaGreatDoor.B (y.den C))]:=by
                have hargs:args.toList.map a.eval=[(s.den C).val,.string (Go.Proofs.YtgpanefhaiohnaaGreatDoor.B (y.den C))]:=hargs
                apply Array.ext'
                simpa using hargs
               have ht:ts=#[t,t']:=by apply Array.ext';simpa using hts
               simp[resolve,invoke,builtin,ha,ht,hrun]
             · show _=((C.l++[s']).getD st.n.l ⟨none,0,0⟩).val
               rw[← R.cl]
               simp
           · exact hs.elim
         · exact hs.elim
       · exact hs.elim
     · exact hs.elim
   · exact hs.elim
 · -- bytes to a string
   rename_i src dst x ho
   split at hs
   · rename_i l hx hty
     split at hs
     · rename_i hck
       obtain⟨rfl,hblw⟩:=hck
       obtain⟨bs,hbs,hsay⟩:=hs
       have hx':=az R (aK _) hx
       have hrun:(convert src dst (a.eval x)).run P w=.ok (.string (Go.Proofs.YtgpanefhaiohnaaGreatDoor.B bs)) w:=by
        rw[hx']
        exact mD hty R.holds hbs
       have R1:=ui (n:={ st.n with s:=st.n.s+1 }) (x:=⟨[],[],[bs],[],[],[]⟩) R hblw rfl (fun u hu=>by cases hu)
       refine gp (v:=.string (Go.Proofs.YtgpanefhaiohnaaGreatDoor.B bs)) (w':=w) ?_ (hK ρ _ _ _ _ (Ext.push C _) (dh R1 o.dst _ _ ?_) hsay) (fun h=>absurd (hw.2 (aK _)) h)
       · unfold execOp
         rw[ho]
         exact dM hrun
       · show _=Value.string (Go.Proofs.YtgpanefhaiohnaaGreatDoor.B ((C.s++[bs]).getD st.n.s []))
         rw[← R.cs]
         simp
     · exact hs.elim
   · split at hs
     · rename_i c v hp
       have hs:=uZ hs
       refine lq hw hgi (fun hgt hc=>?_) (fun hgf hc=>?_)
       · have:=nN R hc hp (hs.1 hgt)
         unfold Oper.wp
         rw[this]
         exact hK ρ _ C _ _ (Ext.refl C) (dh R o.dst _ _ (jq hc rfl)) hs.2
       · exact hK ρ _ C _ _ (Ext.refl C) (dh R o.dst _ _ (jJ hc)) hs.2
     · exact hs.elim
 · -- load
   rename_i t x ho
   split at hs
   · rename_i ad hx
     split at hs
     · rename_i r n sz d hr hsz hd
       split at hs
       · rename_i hck
         simp only[Bool.and_eq_true,decide_eq_true_eq] at hck
         obtain⟨⟨⟨⟨hblw,hpl⟩,hn⟩,hl⟩,hag⟩:=hck
         obtain⟨hy,hno⟩:=hs
         refine lq hw hgi (fun hgt hc=>?_) (fun hgf hc=>?_)
         · have hu:=hy hgt
           rw[ah] at hu
           obtain⟨y,hx',hones,hread,hsays⟩:=hu
           obtain⟨q,hq,hlen,hcell⟩:=pX R.holds hread (jv (gV R.ones hones) aP r.cells)
           have he':a.eval x=.pointer (some ⟨q.1,q.2,none⟩):=xM R hc hx hq
           obtain⟨L1,L2⟩:=uU hd hsz hlen hcell
           have R1:=ui R hblw (x:=y) (n:=n) (by rw[hx'];exact hn) hones
           have hrun:(execOp a.eval o).run P w=.ok (.value (r.den (C.push y) ρ)) w:=by
            unfold execOp
            rw[ho]
            simp only[he']
            refine dM ?_
            cases r with
            | one c=>
              have hagg:fZ P t=false:=by simpa[PE.Gf] using hag
              have hp:c.plain=true:=by simpa[PE.plain,PE.cells] using hpl
              exact L2 hagg _ (by rw[show PE.den (C.push y) ρ (.one c)=c.den (C.push y) aP from c.eF hp];rfl)
            | agg l=>
              have hagg:fZ P t=true:=hag
              rw[L1 hagg]
              show _=Result.ok (Value.agg (l.map (CE.den (C.push y) ρ)).toArray) w
              rw[← jc (ρ:=ρ) (l:=l) hpl]
              rfl
           unfold Oper.wp
           rw[hrun]
           exact hK ρ _ _ _ _ (Ext.push C _) (dh R1 o.dst _ _ (jq hc rfl)) hsays
         · have hsays:=hno hgf
           have hones:dZ (Inc.blank (n.sub st.n)).v:=fun u hu=>by rw[List.eq_of_mem_replicate hu];rfl
           have hcnt:(Inc.blank (n.sub st.n)).cnt=n.sub st.n:=by simp[Inc.blank,Inc.cnt]
           have R1:=ui R hblw (x:=Inc.blank (n.sub st.n)) (n:=n) (by rw[hcnt];exact hn) hones
           exact hK ρ _ _ _ _ (Ext.push C _) (dh R1 o.dst _ undef (jJ hc)) hsays
       · exact hs.elim
     · exact hs.elim
   · split at hs
     case h_2=>exact hs.elim
     rename_i p hp
     split at hs
     · rename_i v hv
       refine lq hw hgi (fun hgt hc=>?_) (fun hgf hc=>?_)
       · have:=yT R hv
         have he:=az R hc hp
         have hrun:(execOp a.eval o).run P w=.ok (.value (v.den C ρ)) w:=by
          unfold execOp
          rw[ho]
          simp only[he]
          exact dM this
         unfold Oper.wp
         rw[hrun]
         exact hK ρ _ C _ _ (Ext.refl C) (dh R o.dst _ _ (jq hc rfl)) hs
       · exact hK ρ _ C _ _ (Ext.refl C) (dh R o.dst _ undef (jJ hc)) hs
     · exact hs.elim
 · -- store
   rename_i t x y ho
   split at hs
   · rename_i ad p n hx hy hn
     split at hs
     · rename_i hck
       obtain⟨rfl,hblw,hpl,hsto,hlen⟩:=hck
       obtain⟨h,hwr,hsay⟩:=hs
       have h2:=az R (aK _) hy
       rw[jc (ρ:=ρ) hpl] at hwr
       unfold jk at hwr
       split at hwr
       · rename_i q hq
         split at hwr
         · rename_i ob hob
           split at hwr
           · rename_i hle
             obtain⟨hle,hT⟩:=hle
             cases hwr
             have hrun:(execOp a.eval o).run P w=.ok .skip (w.setRow q.1 (ob.cs.take q.2++p.cells.map (CE.den C ρ)++ob.cs.drop (q.2+n)).toArray):=by
              unfold execOp
              rw[ho]
              have h1':a.eval x=.pointer (some ⟨q.1,q.2,none⟩):=xM R (aK _) hx hq
              have hst:=lu (P:=P) (t:=t) (off:=q.2) ((R.holds _ _ hob).rw hT) (kZ R.ones ρ p) hn (by simp[hlen]) (by simp[hlen] at hle;omega) (by
               intro u hu
               obtain⟨c,hc,rfl⟩:=List.mem_map.1 hu
               have:=List.all_eq_true.1 hsto c hc
               simp only[CE.sto,Bool.and_eq_true,decide_eq_true_eq,Bool.not_eq_true'] at this
               exact uH R.ones ρ c st.n R.cv.symm this.1.1 this.1.2 this.2)
              simp only[h1',h2,Sem.run_bind,hst]
              rfl
             unfold jT
             rw[if_pos (hw.2 (aK _))]
             left
             unfold Oper.wp
             rw[hrun]
             have R1:=QS R hblw hob hT (ob.cs.take q.2++p.cells.map (CE.den C ρ)++ob.cs.drop (q.2+n))
             rw[List.length_map,hlen] at hsay
             exact hK ρ _ _ _ _ (Ext.heap C _) (dh R1 o.dst .dead undef trivial) hsay
           · cases hwr
         · cases hwr
       · cases hwr
     · exact hs.elim
   · split at hs
     case h_2=>exact hs.elim
     rename_i k off p n hx hy hn
     split at hs
     · rename_i b hb
       split at hs
       · rename_i hck
         obtain⟨rfl,hsto,hlen,hle⟩:=hck
         have h1:=az R (aK _) hx
         have h2:=az R (aK _) hy
         have hrun:(execOp a.eval o).run P w=.ok .skip (w.setRow (ρ k) ((b.cells.take off++p.cells++b.cells.drop (off+n)).map (CE.den C ρ)).toArray):=by
          unfold execOp
          rw[ho]
          have h1':a.eval x=.pointer (some ⟨ρ k,off,none⟩):=h1
          have hst:=lu (P:=P) (t:=t) (off:=off) (R.blocks k b hb) (kZ R.ones ρ p) hn (by simp[hlen]) (by simp;omega) (by
           intro u hu
           obtain⟨c,hc,rfl⟩:=List.mem_map.1 hu
           have:=List.all_eq_true.1 hsto c hc
           simp only[CE.sto,Bool.and_eq_true,decide_eq_true_eq,Bool.not_eq_true'] at this
           exact uH R.ones ρ c st.n R.cv.symm this.1.1 this.1.2 this.2)
          simp only[h1',h2,Sem.run_bind,hst]
          simp[List.map_take,List.map_drop]
         unfold jT
         rw[if_pos (hw.2 (aK _))]
         left
         unfold Oper.wp
         rw[hrun]
         exact hK ρ _ C _ _ (Ext.refl C) (dh (DT R hb) o.dst .dead undef trivial) hs
       · exact hs.elim
     · exact hs.elim
 · -- so many new ones
   rename_i t x y ho
   exact LJ R ho hw hs hK
 · -- a value
   split at hs
   · rename_i l hl
     split at hs
     · rename_i hg0
       subst hg0
       unfold uw at hl
       split at hl
       · rename_i s ho
         split at hl
         · rename_i l' hs'
           cases hl
           have hv:a.eval (.tmp s)=.tuple (l.map (PE.den C ρ)).toArray:=R.slots s _ hs'
           refine gp (v:=.tuple (l.map (PE.den C ρ)).toArray) (w':=w) ?_ (hK ρ _ C _ _ (Ext.refl C) (dh R o.dst (.tup l) _ rfl) hs) (fun h=>absurd (hw.2 (aK _)) h)
           unfold execOp
           rw[ho,← hv]
           rfl
         · cases hl
       · cases hl
     · exact hs.elim
   split at hs
   · rename_i f k hc
     exact MH R hw hc hs hK
   split at hs
   · rename_i c v hp
     have hs:=uZ hs
     refine lq hw hgi (fun hgt hc=>?_) (fun hgf hc=>?_)
     · have:=nN R hc hp (hs.1 hgt)
       unfold Oper.wp
       rw[this]
       exact hK ρ _ C _ _ (Ext.refl C) (dh R o.dst _ _ (jq hc rfl)) hs.2
     · exact hK ρ _ C _ _ (Ext.refl C) (dh R o.dst _ _ (jJ hc)) hs.2
   · exact hs.elim
theorem ED (hE:Good P E) {nw:iy} {ops:Array Oper} {K:St→Fm} {Q:Exit→Act→World→Prop}:∀ (l:List Oper) {ρ:Nat→Nat} {st:St} {C:Ctx} {a:Act} {w:World},Rep B h0 w0 ρ st C a w→(qV nw P ops l st K).says E C→
 (∀ ρ st D a w,Ext C D→Rep B h0 w0 ρ st D a w→(K st).says E D→Q .normal a w)→wpList P ops Q l a w:=by
 intro l
 induction l with
 | nil=>intro ρ st C a w R hs hK;exact hK ρ st C a w (Ext.refl C) R hs
 | cons o l ih=>
   intro ρ st C a w R hs hK
   exact lK hE R hs fun ρ st D a w hx R hs=>ih R hs fun ρ st F a w hx2 R hs=>hK ρ st F a w (hx.trans hx2) R hs
end
end Go.Proofs.YtgpanefhaiohnaaGreatDoor
namespace Go.Proofs.YtgpanefhaiohnaaGreatDoor
open Go.RowKit
def iy.st0 (nw:iy):iy:={ nw with esc:=1000004::nw.esc }
def iy.st1 (nw:iy):iy:={ nw with esc:=1000004::1000003::nw.esc }
def iy.sts (nw:iy):Bool:=nw.esc.contains 1000004
def uf (nw:iy) (P:Program) (st:St) (gs:Gs) (o:Oper):Option (FuncId×List PE×VE×Cnt):=
 match vw P st gs o with
 | some x=>some x
 | none=>if nw.sts=true then stOp P st gs o.op else none
section
variable {P:Program} {E:Env} {B:Nat} {h0:Hp} {w0:World} {ρ:Nat→Nat} {st:St} {C:Ctx} {a:Act} {w:World}
theorem Vl (R:Rep B h0 w0 ρ st C a w) {gs:Gs} (hg:dA gs a.tmps) {o:Oper} {f:FuncId} {vas:List PE} {r:VE} {n:Cnt} (h:stOp P st gs o.op=some (f,vas,r,n)):
 ∃ t c,c<8∧f=jo t c∧zL P t c (vas.map (PE.den C ρ))∧∀ v w',lV P t c (vas.map (PE.den C ρ)) w v w'→(execOp a.eval o).run P w=.ok (.value v) w'∨(v=undef∧(execOp a.eval o).run P w=.ok .skip w'):=by
 unfold stOp at h
 split at h
 · rename_i t x y hop
   split at h
   · rename_i ad p n' hx hy hn
     split at h
     · rename_i hck
       obtain⟨_,hsto,hlen⟩:=hck
       simp only[Option.some.injEq,Prod.mk.injEq] at h
       obtain⟨rfl,rfl,_⟩:=h
       have e1:=az R hg hx
       have e2:=az R hg hy
       have hpc:=kZ R.ones ρ p
       refine⟨t,5,by omega,rfl,⟨fun _=>⟨_,p.den C ρ,rfl,by rw[hn,hpc];simp[hlen],fun u hu=>?_⟩,fun e=>by omega,fun e=>by omega⟩,fun v w' hr=>.inr ?_⟩
       · rw[hpc] at hu
         obtain⟨c,hc,rfl⟩:=List.mem_map.1 (show u∈p.cells.map (CE.den C ρ) by simpa using hu)
         have:=List.all_eq_true.1 hsto c hc
         simp only[CE.sto,Bool.and_eq_true,decide_eq_true_eq,Bool.not_eq_true'] at this
         exact uH R.ones ρ c st.n R.cv.symm this.1.1 this.1.2 this.2
       · rw[gm (by omega)] at hr
         unfold execOp
         rw[hop]
         simp only[e1,e2]
         have hr':(do Instr.storeAt t (ad.den C ρ) (p.den C ρ);pure undef:Sem Value).run P w=.ok v w':=hr
         rw[Sem.run_bind] at hr'⊢
         cases hu:(Instr.storeAt t (ad.den C ρ) (p.den C ρ)).run P w with
         | halt a b=>rw[hu] at hr';cases hr'
         | ok u w1=>
           rw[hu] at hr'
           have hr':(Result.ok undef w1:Result Value)=.ok v w':=hr'
           cases hr'
           exact⟨rfl,rfl⟩
     · cases h
   · cases h
 · rename_i op _
   split at h
   · rename_i t x y hap
     split at h
     · rename_i s u e hx hy ht
       split at h
       · rename_i i hi
         split at h
         · rename_i z hz
           split at h
           · rename_i hck
             obtain⟨hzs,hsz,hT⟩:=hck
             simp only[Option.some.injEq,Prod.mk.injEq] at h
             obtain⟨rfl,rfl,_⟩:=h
             have e1:=az R hg hx
             have e2:=az R hg hy
             refine⟨t,6,by omega,rfl,⟨fun e=>by omega,fun _=>⟨_,_,e,i,z,rfl,ht,hi,hz,hzs,hsz,hT⟩,fun e=>by omega⟩,fun v w' hr=>.inl ?_⟩
             rw[gm (by omega)] at hr
             unfold RI at hap
             split at hap
             · rename_i args ts hop
               split at hap
               · rename_i s' y' t1 t2 ha hts
                 split at hap
                 · rename_i htt
                   cases hap
                   obtain⟨args⟩:=args
                   obtain⟨ts⟩:=ts
                   simp only at ha hts
                   subst ha hts htt
                   unfold execOp
                   rw[hop]
                   have hr':(Builtin.append_ #[t2,t2] 0 #[PE.den C ρ (.one (.sl s)),PE.den C ρ (.one (.sl u))]).run P w=.ok v w':=hr
                   have hd2:Builtin.append_ [t2,t2].toArray o.type #[PE.den C ρ (.one (.sl s)),PE.den C ρ (.one (.sl u))]=Builtin.append_ #[t2,t2] 0 #[PE.den C ρ (.one (.sl s)),PE.den C ρ (.one (.sl u))]:=rfl
                   simp only[resolve,invoke,builtin,Sem.run_bind,List.map_toArray,List.map_cons,List.map_nil,e1,e2,Result.andThen,Sem.run_pure,hd2,hr']
                 · cases hap
               · cases hap
             · cases hap
           · cases h
         · cases h
       · cases h
     · rename_i s k m e hx hy ht
       split at h
       · rename_i i b hi hb
         split at h
         · rename_i z hz
           split at h
           · rename_i hck
             obtain⟨hzs,hsz,hT,hlen,hpl,hsto⟩:=hck
             simp only[Option.some.injEq,Prod.mk.injEq] at h
             obtain⟨rfl,rfl,_⟩:=h
             have e1:=az R hg hx
             have e2:=az R hg hy
             have hcs:(b.cells.map PE.one).map (PE.den C ρ)=b.cells.map (CE.den C ρ):=by rw[List.map_map];rfl
             refine⟨t,7,by omega,rfl,⟨fun e=>by omega,fun e=>by omega,fun _=>⟨PE.den C ρ (.one (.sl s)),m,e,i,z,b.cells.map (CE.den C ρ),by rw[List.map_append,hcs];rfl,ht,hi,hz,hzs,hsz,hT,by simpa using hlen,fun u hu=>?_⟩⟩,fun v w' hr=>.inl ?_⟩
             · obtain⟨c,hc,rfl⟩:=List.mem_map.1 hu
               have:=List.all_eq_true.1 hsto c hc
               simp only[CE.sto,Bool.and_eq_true,decide_eq_true_eq,Bool.not_eq_true'] at this
               exact uH R.ones ρ c st.n R.cv.symm this.1.1 this.1.2 this.2
             unfold lV at hr
             rw[if_pos rfl] at hr
             have hr':=hr (PE.den C ρ (.one (.sl s))) m i.size i.bytes e (b.cells.map (CE.den C ρ)) ⟨some (ρ k,0),m,m⟩ (by rw[List.map_append,hcs];rfl) ⟨rfl,.inr ⟨(ρ k,0),rfl,fun j u hu=>by
              rw[Nat.zero_add,iC (R.blocks k b hb)]
              exact hu⟩⟩
             unfold RI at hap
             split at hap
             · rename_i args ts hop
               split at hap
               · rename_i s' y' t1 t2 ha hts
                 split at hap
                 · rename_i htt
                   cases hap
                   obtain⟨args⟩:=args
                   obtain⟨ts⟩:=ts
                   simp only at ha hts
                   subst ha hts htt
                   unfold execOp
                   rw[hop]
                   have hd2:Builtin.append_ [t2,t2].toArray o.type #[PE.den C ρ (.one (.sl s)),PE.den C ρ (.one (.osl k m))]=Builtin.append_ #[t2,t2] 0 #[PE.den C ρ (.one (.sl s)),bg.val ⟨some (ρ k,0),m,m⟩]:=rfl
                   simp only[resolve,invoke,builtin,Sem.run_bind,List.map_toArray,List.map_cons,List.map_nil,e1,e2,Result.andThen,Sem.run_pure,hd2,hr']
                 · cases hap
               · cases hap
             · cases hap
           · cases h
         · cases h
       · cases h
     · cases h
   · cases h
theorem L8 (hE:Good P E) (R:Rep B h0 w0 ρ st C a w) {nw:iy} {gs:Gs} (hg:dA gs a.tmps) {o:Oper} {f:FuncId} {vas:List PE} {r:VE} {n:Cnt} (h:uf nw P st gs o=some (f,vas,r,n)) (hpl:vas.all PE.plain=true)
 {φ:Value→Hp→Prop} (hs:E.spec f (vas.map (PE.den C aP)) C.h φ) {Next:Act→World→Prop} {Q:Exit→Act→World→Prop} (hN:∀ u k w',φ u k→Holds k w'→Fr w.heap.size C.h k w w'→Next (a.put o.dst u) w'):o.wp P a w Next Q:=by
 unfold uf at h
 split at h
 · rename_i y hy
   cases h
   exact Dx hE R hg hy hpl hs hN
 · split at h
   · obtain⟨t,c,hc,rfl,hpre,hrun⟩:=Vl R hg h
     exact DL hE R hc hpre hrun hpl hs hN
   · cases h
end
theorem LC {P:Program} {f:FuncId} {args:List Value} {h:Hp} {φ:Value→Hp→Prop} (hs:ES P f args h φ):∃ k,k<5∧∃ t,f=jo t k:=by
 obtain⟨t,et,_,⟨_,_,_,_,h | h,_⟩ | ⟨_,_,_,_,h,_⟩ | ⟨_,_,_,h,_⟩ | ⟨h,_⟩⟩:=hs
 · exact⟨0,by omega,t,h⟩
 · exact⟨1,by omega,t,h⟩
 · exact⟨2,by omega,t,h⟩
 · exact⟨3,by omega,t,h⟩
 · exact⟨4,by omega,t,h⟩
theorem I8 {P:Program} {f:FuncId} {args:List Value} {h:Hp} {φ:Value→Hp→Prop} {w:World} (hs:Uk P f args h φ) (H:Holds h w) {u c:Nat} (hc:c<8) (hf:f=jo u c) (hpre:zL P u c args):
 ∃ v k w',lV P u c args w v w'∧φ v k∧Holds k w'∧Fr w.heap.size h k w w':=by
 rcases hs with hs | ⟨t,x,v,k,hg,rfl,hwr,hφ⟩ | ⟨t,s,y,sz,bytes,e,xs,ys,hg,rfl,h1,h2,h3,h4,h5,hφ⟩ | ⟨t,s,m,sz,bytes,e,xs,ys,hg,rfl,h1,h4,h5,hφ⟩
 · obtain⟨k,hk,hg⟩:=LC hs
   obtain⟨v,k',w',g1,g⟩:=ET hs H hc hf
   refine⟨v,k',w',?_,g⟩
   obtain⟨t',e⟩:=hg
   rw[gm (by have:=(iO hc (by omega) (hf.symm.trans e)).2;omega)]
   exact g1
 · obtain⟨rfl,rfl⟩:=iO hc (by omega) (hf.symm.trans hg)
   obtain⟨m,v',he,hsz,hone⟩:=hpre.1 rfl
   simp only[List.cons.injEq,and_true] at he
   obtain⟨rfl,rfl⟩:=he
   unfold jk at hwr
   split at hwr
   · rename_i q
     split at hwr
     · rename_i ob hob
       split at hwr
       · rename_i hle
         obtain⟨hle,hT⟩:=hle
         cases hwr
         have hst:=lu (P:=P) (t:=u) (off:=q.2) ((H _ _ hob).rw hT) (v:=v) (cs:=v.cells.toList) (by simp) hsz (by simp) (by simpa using hle) hone
         refine⟨undef,_,w.setRow q.1 (ob.cs.take q.2++v.cells.toList++ob.cs.drop (q.2+v.cells.toList.length)).toArray,?_,hφ,?_,rfl,rfl,rfl,by simp,fun k _ hk=>setRow_other _ _ _ _ (hk.ne hob hT),fun k _ hk=>?_,fun k _ hk=>hk.set (hk.ne hob hT)⟩
         · rw[gm (by omega)]
           unfold kV
           simp only[Sem.run_bind]
           rw[show (kL (some q))=.pointer (some ⟨q.1,q.2,none⟩) from rfl,hst]
           simp
         · intro b x hx
           by_cases hbg:b=q.1
           · subst hbg
             simp only[Hp.set,if_true,Option.some.injEq] at hx
             subst hx
             exact .of (setRow_heap _ _ _ _ _ _ ((H _ _ hob).rw hT)) (.inl hT)
           · simp only[Hp.set,if_neg hbg] at hx
             rw[setRow_other _ _ _ _ hbg]
             exact H b x hx
         · simp only[Hp.set]
           rw[if_neg (fun e=>by rw[e,hob] at hk;cases hk)]
           exact hk
       · cases hwr
     · cases hwr
   · cases hwr
 · obtain⟨rfl,rfl⟩:=iO hc (by omega) (hf.symm.trans hg)
   obtain⟨s1,y1,e1,i,z,he,ht,hi,hz,hzs,hpos,hT⟩:=hpre.2.1 rfl
   simp only[List.cons.injEq,and_true,Value.int.injEq,true_and] at he
   obtain⟨rfl,rfl,h6,h7,h8⟩:=he
   have h6:=Int.ofNat.inj h6
   have h7:=Int.ofNat.inj h7
   have h8:=Int.ofNat.inj h8
   subst h6 h7 h8
   obtain⟨s',k,w',hrun,g1,g2,g3,g4,g5,g6⟩:=vX H ht hi hz hzs hpos h1 h2 h3 h4 h5 0 hT
   exact⟨s'.val,k,w',(gm (by omega)).mpr hrun,hφ s' k g1 g2 g3 g4,g5,g6⟩
 · obtain⟨rfl,rfl⟩:=iO hc (by omega) (hf.symm.trans hg)
   obtain⟨s1,m1,e1,i,z,ys1,he,ht,hi,hz,hzs,hpos,hT,hl,hone⟩:=hpre.2.2 rfl
   simp only[List.cons.injEq,Value.int.injEq,true_and] at he
   obtain⟨rfl,h0,h6,h7,h8,rfl⟩:=he
   have h0:=Int.ofNat.inj h0
   have h6:=Int.ofNat.inj h6
   have h7:=Int.ofNat.inj h7
   have h8:=Int.ofNat.inj h8
   subst h0 h6 h7 h8
   obtain⟨s',k,w',hrun,g1,g2,g3,g4,g5,g6⟩:=vY H ht hi hz hzs hpos h1 hl hone h4 h5 0 hT
   refine⟨s'.val,k,w',?_,hφ s' k g1 g2 g3 g4,g5,g6⟩
   unfold lV
   rw[if_pos rfl]
   intro s2 m2 sz2 b2 e2 ys2 y he hsrc
   simp only[List.cons.injEq,Value.int.injEq,true_and] at he
   obtain⟨rfl,h0,h6,h7,h8,rfl⟩:=he
   have h0:=Int.ofNat.inj h0
   subst h0
   exact hrun y hsrc
end Go.Proofs.YtgpanefhaiohnaaGreatDoor
namespace Go.Proofs.YtgpanefhaiohnaaGreatDoor
open Go.RowKit
def direct (o:Oper):List Nat:=o.after.toList.filterMap fun e=>if Region.binds .any e then some e.on else none
def qB:List Oper→List (List Nat)→List (List Nat)
 | [],acc=>acc
 | o::os,acc=>qB os (acc++[(direct o++(direct o).flatMap fun e=>acc.getD e []).eraseDups])
inductive Rec where
 | val (s:Nat) (gs:Gs) (g c:BE) (v:PE)
 | tup (l:List PE)
 | call (k:Nat) (gs:Gs) (g:BE) (f:FuncId) (vas:List PE) (r:VE) (d:Cnt)
 | load (s:Nat) (n0:Cnt) (gs:Gs) (g:BE) (a:AE) (n:Nat) (r:PE) (d:Cnt)
 | new (k:Nat) (cs:List CE) (ty:TypeId) (sl:Option Nat)
 | sto (s k off:Nat) (cs:List CE)
 | mkS (k:Nat) (cs:List CE) (ty:TypeId) (len:Nat) (n:Cnt)
 deriving DecidableEq
def xZ (gs:Gs):VE→VE
 | .p x=>jg gs x
 | .tup l=>.tup l
 | _=>.dead
def okR (gs:Gs):VE→Bool
 | .p _=>true
 | .tup _=>gs.isEmpty
 | _=>false
def Rec.ve:Rec→VE
 | .val _ gs _ _ v=>jg gs v
 | .tup l=>.tup l
 | .call _ gs _ _ _ r _=>xZ gs r
 | .load _ _ gs _ _ _ r _=>jg gs r
 | .new k _ _ sl=>.p (.one (zy k sl))
 | .sto ..=>.dead
 | .mkS _ _ _ _ n=>.p (.one (.sl (.x n.l)))
def Rec.gs:Rec→Gs
 | .val _ gs ..=>gs
 | .tup _=>[]
 | .call _ gs ..=>gs
 | .load _ _ gs ..=>gs
 | .new ..=>[]
 | .sto ..=>[]
 | .mkS ..=>[]
def ZX (nw:iy) (P:Program) (op:Op) (s:Nat) (M:St) (gs:Gs) (g:BE):Option Rec:=
 match uw M op with
 | some l=>if gs=[] then some (.tup l) else none
 | none=>(oZ nw P M gs op).map fun (c,v)=>.val s gs g c v
def C9 (M:St) (gs:Gs):Op→Option (TypeId×AE)
 | .load t x=>match (gW M gs x).bind rJ with
   | some a=>some (t,a)
   | none=>none
 | _=>none
def iy.mk1 (nw:iy):iy:={ nw with esc:=1000003::nw.esc }
def iy.Ye (nw:iy):Bool:=nw.esc.contains 1000003
def ZL (nw:iy) (P:Program) (M:St) (gs:Gs) (op:Op):Option (List CE×TypeId×Nat):=
 if nw.Ye=true∧gs=[] then match jI P M gs op with
  | some (cs,t,len)=>if cs.all CE.plain=true then some (cs,t,len) else none
  | none=>none
 else none
def QP (nw:iy) (P:Program) (ops:Array Oper) (o:Oper) (s:Nat) (n0:Cnt) (M:St):Option Rec:=
 match guardOf M ops o with
 | none=>none
 | some gs=>match oI M [] gs with
   | none=>none
   | some g=>match C9 M gs o.op with
     | some (t,a)=>match Ez P n0 t,bU P t,P.underlying t with
       | some (r,n),some sz,some _=>
         if r.plain&&decide (n0.add (n.sub n0)=n)&&decide (r.cells.length=sz)&&r.Gf P t then some (.load s n0 gs g a sz r (n.sub n0)) else none
       | _,_,_=>none
     | none=>match ZL nw P M gs o.op with
       | some (cs,t,len)=>some (.mkS s cs t len M.n)
       | none=>match uf nw P M gs o with
       | some (f,vas,r,n)=>if vas.all PE.plain&&r.plain&&decide (M.n.add (n.sub M.n)=n)&&okR gs r then some (.call s gs g f vas r (n.sub M.n)) else none
       | none=>match o.op with
       | .store t x y=>match gW M gs x,gW M gs y,bU P t with
         | some (.one (.own k off)),some p,some n=>if gs=[]∧p.cells.all (CE.sto M.n)=true∧p.cells.length=n then some (.sto s k off p.cells) else none
         | _,_,_=>none
       | op=>match qZ P M gs op with
         | some (cs,t,sl)=>if gs=[]∧nw.esc.all (fun d=>decide (o.dst≠some d))=true then some (.new M.m.length cs t sl) else none
         | none=>ZX nw P op s M gs g
def EP (ops:Array Oper) (i:Nat):Bool:=match ops[i]? with
 | some o=>(match o.op with | .move _=>true | _=>false)&&o.guard.isNone&&o.after.isEmpty&&Region.free .any ops (Array.replicate ops.size false) i
 | none=>false
def Lt (ops:Array Oper):List Nat:=if Region.noSelect ops then (List.range ops.size).filter (EP ops) else []
structure Dr where
 st:St
 W:List (Option Nat)
 tab:List (List Nat)
 recs:List Rec
 cs:List Cnt
 ns:List Cnt
 calls:List Nat
 L:Nat
 al:Option (Nat×ou)
 sl:List (Nat×Nat×ou)
 z:List Nat
def Dr.ve (D:Dr) (j:Nat):VE:=match D.recs[j]? with
 | some r=>r.ve
 | none=>.dead
def Dr.pre (D:Dr) (j:Nat):List Nat:=D.tab.getD j []
def Dr.wr (D:Dr) (t:Nat):Option Nat:=(D.W[t]?).getD none
def jY (m:List ou) (l:List (Nat×Nat×ou)):List ou:=l.foldl (fun m x=>m.set x.2.1 x.2.2) m
def subs {α:Type}:List α→List (List α)
 | []=>[[]]
 | x::xs=>subs xs++(subs xs).map (x::·)
def Dr.mem (D:Dr) (listed:Nat→Bool):List ou:=jY D.st.m (D.sl.filter fun x=>listed x.1)
def wZ {α β:Type} (n:Nat):List α→(Nat→α→β)→List β
 | [],_=>[]
 | x::xs,f=>f n x::wZ (n+1) xs f
theorem mM {α β:Type} (f:Nat→α→β):∀ (l:List α) (n:Nat),(wZ n l f).length=l.length
 | [],_=>rfl
 | _::xs,n=>by rw[wZ,List.length_cons,List.length_cons,mM f xs]
theorem Dj {α β:Type} (f:Nat→α→β):∀ (l:List α) (n t:Nat),(wZ n l f)[t]? = (l[t]?).map (f (n+t))
 | [],_,_=>by simp[wZ]
 | _::xs,n,0=>by simp[wZ]
 | _::xs,n,t+1=>by rw[wZ,List.getElem?_cons_succ,List.getElem?_cons_succ,Dj f xs,show n+1+t=n+(t+1) by omega]
theorem jO {α β:Type} (f:Nat→α→β) (l:List α) (t:Nat):(wZ 0 l f)[t]? = (l[t]?).map (f t):=by rw[Dj,Nat.zero_add]
def Dr.at (D:Dr) (listed:Nat→Bool) (n:Cnt):St:=
 { t:=wZ 0 D.st.t fun t v=>match D.wr t with
    | some j=>if listed j then D.ve j else v
    | none=>v
   m:=D.mem listed++match D.al with
    | some (i,b)=>if listed i then [b] else []
    | none=>[]
   n:=n }
def Dr.mad (D:Dr) (i:Nat):List ou:=match D.al with
 | some (j,b)=>if (D.pre i).contains j then [b] else []
 | none=>[]
def Dr.sees (D:Dr) (i:Nat) (n:Cnt) (m:List ou):St:=
 { t:=wZ 0 D.st.t fun t v=>match D.wr t with
    | some j=>if (D.pre i).contains j then D.ve j else if (D.pre j).contains i then v else .dead
    | none=>v
   m:=m++D.mad i
   n:=n }
def Dr.n (D:Dr) (s:Nat):Cnt:=D.ns.getD s .zero
def Dr.c (D:Dr) (i:Nat):Cnt:=D.cs.getD i .zero
def Dr.stage (D:Dr) (i:Nat):Nat:=(D.calls.zipIdx.foldl (fun m x=>if (D.pre i).contains x.1 then x.2+1 else m) 0)
def Dr.start (D:Dr):Nat→Cnt
 | 0=>D.st.n
 | s+1=>match (D.calls[s]?).bind (D.recs[·]?) with
   | some (.call _ _ _ _ _ _ d)=>(D.n s).add d
   | some (.mkS ..)=>(D.n s).add ⟨0,0,0,0,1,0⟩
   | _=>.zero
def VE.still:VE→Bool
 | .wg _ _=>false
 | _=>true
def Cnt.le (a b:Cnt):Bool:=decide (a.i≤b.i)&&decide (a.b≤b.b)&&decide (a.s≤b.s)&&decide (a.v≤b.v)&&decide (a.l≤b.l)&&decide (a.p≤b.p)
def Dr.okAt (nw:iy) (P:Program) (ops:Array Oper) (D:Dr) (i:Nat):Bool:=
 match ops[i]?,D.recs[i]? with
 | some o,some r=>
   ((subs D.sl).all fun S=>decide (QP nw P ops o (D.stage i) (D.c i) (D.sees i (D.n (D.stage i)) (jY D.st.m S))=some r))&&
   (match o.dst with | some d=>decide (D.wr d=some i) | none=>true)&&
   (r.gs.all fun g=>match D.wr g.1 with | some q=>(D.pre i).contains q | none=>true)&&
   (match r with
   | .val s _ g c v=>!D.calls.contains i&&decide (s=D.stage i)&&g.blw (D.n s)&&c.blw (D.n s)&&v.blw (D.n s)
   | .tup l=>!D.calls.contains i&&l.all (PE.blw (D.n (D.stage i)))
   | .new k cs ty _=>decide (D.al=some (i,⟨cs,ty⟩))&&decide (k=D.st.m.length)&&!D.calls.contains i&&cs.all (CE.qA D.st.m.length)&&cs.all (CE.blw (D.n (D.stage i)))
   | .sto s k off cs=>decide (s=D.stage i)&&!D.calls.contains i&&(match D.st.m[k]? with
     | some b=>decide (off+cs.length≤b.cells.length)&&D.sl.contains (i,k,⟨b.cells.take off++cs++b.cells.drop (off+cs.length),b.ty⟩)
     | none=>false)
   | .load s n0 _ g a _ r d=>!D.calls.contains i&&decide (s=D.stage i)&&g.blw n0&&a.blw n0&&r.blw (n0.add d)&&(n0.add d).le (D.n s)&&n0.le (D.n s)
   | .call k _ g _ _ r _=>decide (k=D.stage i)&&decide (D.calls[k]? = some i)&&g.blw (D.n k)&&r.blw (D.start (k+1))&&(k==0||(match D.calls[k - 1]? with | some c=>(D.pre i).contains c | none=>false))
   | .mkS k _ _ _ n=>decide (k=D.stage i)&&decide (D.calls[k]? = some i)&&decide (n=D.n k)&&r.ve.blw (D.start (k+1)))&&
   (D.stage i==0||(match D.calls[D.stage i - 1]? with | some c=>(D.pre i).contains c | none=>false))&&
   decide (D.stage i≤D.calls.length)&&!(D.pre i).contains i&&(match r with | .new ..=>true | _=>decide (D.al.map (·.1)≠some i))&&(match r with | .sto ..=>true | _=>D.sl.all fun x=>decide (x.1≠i))
 | _,_=>false
def jF (s:Nat):List Rec→Cnt→Cnt→Bool
 | [],c,e=>decide (c=e)
 | .load s' n0 _ _ _ _ _ d::rs,c,e=>if s'=s then decide (n0=c)&&jF s rs (c.add d) e else jF s rs c e
 | _::rs,c,e=>jF s rs c e
def Dr.ok (nw:iy) (P:Program) (ops:Array Oper) (D:Dr):Bool:=
 decide (D.tab=qB ops.toList [])&&(ops.toList.zipIdx.all fun x=>(direct x.1).all fun e=>decide (e<x.2))&&D.st.t.all VE.still&&D.st.blw&&D.st.n.le (D.n 0)&&decide D.calls.Nodup&&D.calls.all (fun c=>decide (c<D.L))&&decide (D.recs.length=D.L)&&
 (List.range D.L).all (D.okAt nw P ops)&&((List.range D.calls.length).all fun k=>(D.n k).le (D.n (k+1)))&&
 ((List.range D.W.length).all fun t=>match D.wr t with | some j=>decide ((ops[j]?).bind (·.dst)=some t) | none=>true)&&
 ((List.range (D.calls.length+1)).all fun s=>jF s D.recs (D.start s) (D.n s)&&(D.start s).le (D.n s))&&
 (decide (D.L≤ops.size)&&((List.range ops.size).all fun i=>decide (i<D.L)||(List.range i).all fun j=>D.z.contains j||(D.pre i).contains j)&&((List.range D.W.length).all fun t=>match D.wr t with | some j=>decide (j<D.L) | none=>true)&&
 (match D.al with
  | some (i,_)=>D.sl.isEmpty&&decide (i<D.L)&&D.st.qA&&(D.recs.zipIdx.all fun x=>x.2==i||(D.pre x.2).contains i||x.1.ve.qA D.st.m.length)
  | none=>true)&&
 (D.sl.all (fun x=>decide (x.1<D.L))&&decide (D.sl.map (·.1)).Nodup&&decide (D.sl.map (·.2.1)).Nodup))&&(decide D.z.Nodup&&(D.z.all fun z=>decide (z<D.L)&&EP ops z)&&(D.z.isEmpty||Region.noSelect ops))
def oK (s:Nat):List Rec→Fm→Fm
 | [],k=>k
 | .val s' _ g c _::rs,k=>if s'=s then IU g c (oK s rs k) else oK s rs k
 | _::rs,k=>oK s rs k
def kU (s:Nat):List Rec→Fm→Fm
 | [],k=>k
 | .load s' _ _ g a n r d::rs,k=>if s'=s then .load g a n r.cells d (kU s rs k) else kU s rs k
 | _::rs,k=>kU s rs k
def yU (s:Nat) (recs:List Rec):List (BE×AE×Nat):=recs.filterMap fun r=>match r with
 | .load s' _ _ g a n _ _=>if s'≤s then some (g,a,n) else none
 | _=>none
def Gu (ks:List (BE×AE×Nat)) (g:BE) (f:FuncId) (vas:List PE) (r:VE) (d:Cnt) (k:Fm):Fm:=if ks=[] then .call g false f vas r d k else .callK g ks f vas r d k
def AX (recs:List Rec) (k:Fm):List Nat→Nat→Fm
 | [],s=>kU s recs (oK s recs k)
 | c::cs,s=>kU s recs (oK s recs (match recs[c]? with
   | some (.call _ _ g f vas r d)=>Gu (yU s recs) g f vas r d (AX recs k cs (s+1))
   | some (.mkS _ ces t len _)=>.mk ces t len (AX recs k cs (s+1))
   | _=>.ff))
def Dr.rest (D:Dr) (k:Fm) (s:Nat):Fm:=match D.calls.drop s with
 | []=>k
 | c::cs=>match D.recs[c]? with
   | some (.call _ _ g f vas r d)=>Gu (yU s D.recs) g f vas r d (AX D.recs k cs (s+1))
   | some (.mkS _ ces t len _)=>.mk ces t len (AX D.recs k cs (s+1))
   | _=>.ff
def Dr.all (D:Dr):St:=D.at (fun _=>true) (D.n D.calls.length)
def Lm (nw:iy) (o:Oper):Bool:=match o.op with
 | .call { callee:=.value _,.. } | .call { callee:=.builtin .delete,.. } | .lookup .. | .mapUpdate .. | .makeMap ..=>true
 | .buildSlice ..=>nw.Ye
 | .store .. | .call { callee:=.builtin .append,.. }=>nw.sts
 | _=>false
def lI (st:St):St:={ st with t:=st.t.map fun v=>if v.still then v else .dead }
def VG (ops:List Oper) (n:Nat):List (Option Nat):=
 ops.zipIdx.foldl (fun W x=>match x.1.dst with | some d=>W.set d (some x.2) | none=>W) (List.replicate n none)
def vP (nw:iy) (P:Program) (ops:Array Oper) (s:Nat):List (Oper×Nat)→Dr→Cnt→Dr×Cnt
 | [],D,cur=>(D,cur)
 | (o,i)::os,D,cur=>match QP nw P ops o s cur (D.sees i cur D.st.m) with
   | some (.load s n0 gs g a n r d)=>vP nw P ops s os { D with recs:=D.recs.set i (.load s n0 gs g a n r d),cs:=D.cs.set i cur } (cur.add d)
   | some (.new k cs ty sl)=>vP nw P ops s os { D with recs:=D.recs.set i (.new k cs ty sl),al:=some (i,⟨cs,ty⟩) } cur
   | some (.sto s k off cs)=>match D.st.m[k]? with
     | some b=>vP nw P ops s os { D with recs:=D.recs.set i (.sto s k off cs),sl:=D.sl++[(i,k,⟨b.cells.take off++cs++b.cells.drop (off+cs.length),b.ty⟩)] } cur
     | _=>(D,cur)
   | some r=>vP nw P ops s os { D with recs:=D.recs.set i r } cur
   | none=>(D,cur)
def UQ (nw:iy) (P:Program) (ops:Array Oper) (low:List Oper):List Nat→Nat→Dr→Cnt→Dr
 | [],s,D,cur=>
   let (D,cur):=vP nw P ops s (low.zipIdx.filter fun x=>D.stage x.2==s&&!Lm nw x.1) D cur
   { D with ns:=D.ns++[cur] }
 | c::cs,s,D,cur=>
   let (D,cur):=vP nw P ops s (low.zipIdx.filter fun x=>D.stage x.2==s&&!Lm nw x.1) D cur
   let D:={ D with ns:=D.ns++[cur] }
   match (ops[c]?).bind fun o=>QP nw P ops o s cur (D.sees c cur D.st.m) with
   | some (.call k gs g f vas r d)=>UQ nw P ops low cs (s+1) { D with recs:=D.recs.set c (.call k gs g f vas r d) } (cur.add d)
   | some (.mkS k ces t len n)=>UQ nw P ops low cs (s+1) { D with recs:=D.recs.set c (.mkS k ces t len n) } (cur.add ⟨0,0,0,0,1,0⟩)
   | _=>D
def YI (tab:List (List Nat)) (n:Nat) (z:List Nat):Nat:=
 n - ((List.range n).reverse.takeWhile fun i=>!z.contains i&&(List.range i).all fun j=>z.contains j||(tab.getD i []).contains j).length
def kT (nw:iy) (P:Program) (ops:Array Oper) (st:St) (z:List Nat):Dr:=
 let st:=lI st
 let tab:=qB ops.toList []
 let L:=YI tab ops.size z
 let low:=ops.toList.take L
 let calls:=(low.zipIdx.filter fun x=>Lm nw x.1).map (·.2)
 UQ nw P ops low calls 0 ⟨st,VG low st.t.length,tab,List.replicate L (.tup []),List.replicate L .zero,[],calls,L,none,[],z⟩ st.n
def Dr.fine (nw:iy) (P:Program) (ops:Array Oper) (st:St) (D:Dr):Bool:=D.ok nw P ops&&decide (D.st.t=(lI st).t)&&decide (D.st.m=st.m)&&decide (D.st.n=st.n)
def yx (nw:iy) (P:Program) (ops:Array Oper) (K:St→Fm) (D:Dr):Fm:=AX D.recs (Xk D.all fun st=>qV nw P ops (ops.toList.drop D.L) st K) D.calls 0
def pO (nw:iy) (P:Program) (ops:Array Oper) (st:St) (K:St→Fm):Fm:=
 if (kT nw P ops st []).fine nw P ops st then yx nw P ops K (kT nw P ops st [])
 else if (kT nw P ops st (Lt ops)).fine nw P ops st then yx nw P ops K (kT nw P ops st (Lt ops))
 else if (kT nw.mk1 P ops st []).fine nw.mk1 P ops st then yx nw.mk1 P ops K (kT nw.mk1 P ops st [])
 else if (kT nw.st0 P ops st []).fine nw.st0 P ops st then yx nw.st0 P ops K (kT nw.st0 P ops st [])
 else if (kT nw.st1 P ops st []).fine nw.st1 P ops st then yx nw.st1 P ops K (kT nw.st1 P ops st []) else .ff
theorem mW:∀ (os:List Oper) (acc:List (List Nat)) (j:Nat),acc.length≤j→∀ x∈(qB os acc).getD j [],∃ o,os[j - acc.length]? = some o∧(x∈direct o∨∃ e∈direct o,x∈(qB os acc).getD e []):=by
 have hpre:∀ (os:List Oper) (acc:List (List Nat)),acc <+: qB os acc:=by
  intro os
  induction os with
  | nil=>intro acc;exact List.prefix_refl _
  | cons o os ih=>intro acc;exact (List.prefix_append _ _).trans (ih _)
 intro os
 induction os with
 | nil=>intro acc j hj x hx;simp only[qB] at hx;rw[List.getD_eq_getElem?_getD,List.getElem?_eq_none hj] at hx;cases hx
 | cons o os ih=>
   intro acc j hj x hx
   by_cases he:j=acc.length
   · subst he
     refine⟨o,by simp,?_⟩
     have hp:=hpre os (acc++[(direct o++(direct o).flatMap fun e=>acc.getD e []).eraseDups])
     have hx':x∈(direct o++(direct o).flatMap fun e=>acc.getD e []).eraseDups:=by
      rw[qB,← gG hp (by simp)] at hx
      simpa using hx
     rw[List.mem_eraseDups,List.mem_append,List.mem_flatMap] at hx'
     rcases hx' with h | ⟨e,he,hx'⟩
     · exact .inl h
     · refine .inr ⟨e,he,?_⟩
       by_cases hlt:e<acc.length
       · rw[← gG (hpre (o::os) acc) hlt];exact hx'
       · rw[List.getD_eq_getElem?_getD,List.getElem?_eq_none (by omega)] at hx';cases hx'
   · have:=ih (acc++[(direct o++(direct o).flatMap fun e=>acc.getD e []).eraseDups]) j (by simp;omega) x hx
     obtain⟨p,hp,hh⟩:=this
     refine⟨p,?_,hh⟩
     rw[show j - acc.length=(j - (acc++[(direct o++(direct o).flatMap fun e=>acc.getD e []).eraseDups]).length)+1 by simp;omega,List.getElem?_cons_succ]
     exact hp
section
variable {P:Program} {E:Env} {B:Nat} {h0:Hp} {w0:World} {ρ:Nat→Nat} {st:St} {C:Ctx} {a:Act} {w:World}
theorem wG {s:Nat}:∀ {rs:List Rec} {k:Fm},(oK s rs k).says E C→k.says E C∧∀ gs g c v,Rec.val s gs g c v∈rs→g.den C=true→c.den C=true:=by
 intro rs
 induction rs with
 | nil=>intro k h;exact⟨h,fun _ _ _ _ h=>by cases h⟩
 | cons r rs ih=>
   intro k h
   cases r with
   | val s' gs' g' c' v'=>
     rw[oK] at h
     split at h
     · rename_i hs
       subst hs
       have h':=uZ h
       obtain⟨h1,h2⟩:=ih h'.2
       refine⟨h1,fun gs g c v hm=>?_⟩
       rcases List.mem_cons.1 hm with e | hm
       · cases e;exact h'.1
       · exact h2 gs g c v hm
     · rename_i hs
       obtain⟨h1,h2⟩:=ih h
       refine⟨h1,fun gs g c v hm=>?_⟩
       rcases List.mem_cons.1 hm with e | hm
       · cases e;exact absurd rfl hs
       · exact h2 gs g c v hm
   | tup l=>
     obtain⟨h1,h2⟩:=ih h
     refine⟨h1,fun gs g c v hm=>?_⟩
     rcases List.mem_cons.1 hm with e | hm
     · cases e
     · exact h2 gs g c v hm
   | call=>
     obtain⟨h1,h2⟩:=ih h
     refine⟨h1,fun gs g c v hm=>?_⟩
     rcases List.mem_cons.1 hm with e | hm
     · cases e
     · exact h2 gs g c v hm
   | new=>
     obtain⟨h1,h2⟩:=ih h
     refine⟨h1,fun gs g c v hm=>?_⟩
     rcases List.mem_cons.1 hm with e | hm
     · cases e
     · exact h2 gs g c v hm
   | load=>
     obtain⟨h1,h2⟩:=ih h
     refine⟨h1,fun gs g c v hm=>?_⟩
     rcases List.mem_cons.1 hm with e | hm
     · cases e
     · exact h2 gs g c v hm
   | sto=>
     obtain⟨h1,h2⟩:=ih h
     refine⟨h1,fun gs g c v hm=>?_⟩
     rcases List.mem_cons.1 hm with e | hm
     · cases e
     · exact h2 gs g c v hm
   | mkS=>
     obtain⟨h1,h2⟩:=ih h
     refine⟨h1,fun gs g c v hm=>?_⟩
     rcases List.mem_cons.1 hm with e | hm
     · cases e
     · exact h2 gs g c v hm
theorem zX (R:Rep B h0 w0 ρ st C a w) {t':List VE} (hl:t'.length=st.t.length) (h:∀ (i:Nat) v,t'[i]? = some v→v=.dead∨st.t[i]? = some v):Rep B h0 w0 ρ { st with t:=t' } C a w:=by
 refine⟨R.defers,by rw[R.size];exact hl.symm,?_,R.blocks,R.fresh,R.inj,R.free,R.holds,R.fr,R.base,R.ci,R.cb,R.cs,R.cv,R.cl,R.cp,R.ones⟩
 intro i v hv
 rcases h i v hv with rfl | h
 · trivial
 · exact R.slots i v h
theorem QR (R:Rep B h0 w0 ρ st C a w) {m' x:List ou} (h:st.m=m'++x):Rep B h0 w0 ρ { st with m:=m' } C a w:=by
 have hl:∀ k,k<m'.length→k<st.m.length:=fun k hk=>by rw[h];simp;omega
 refine⟨R.defers,R.size,R.slots,fun k b hk=>R.blocks k b (by rw[h,List.getElem?_append_left (List.getElem?_eq_some_iff.1 hk).1];exact hk),fun k hk=>R.fresh k (hl k hk),fun k j hk hj=>R.inj k j (hl k hk) (hl j hj),fun k hk=>R.free k (hl k hk),R.holds,R.fr,R.base,R.ci,R.cb,R.cs,R.cv,R.cl,R.cp,R.ones⟩
end
end Go.Proofs.YtgpanefhaiohnaaGreatDoor
