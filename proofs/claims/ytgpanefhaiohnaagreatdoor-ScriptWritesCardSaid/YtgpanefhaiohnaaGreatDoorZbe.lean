/- hindcastlaw29: texts joined: EngF, EngG, EngU, ScrF, ScrG, Shelf, ScrH, ScrI, ScrJ, ScrK, ScrL, ScrM. -/
import Derived.Test.YtgpanefhaiohnaaGreatDoorZbd
namespace Go.Proofs.YtgpanefhaiohnaaGreatDoor
open Go.RowKit
structure uB (g h:dw):Prop where
 i:g.i <+: h.i
 b:g.b <+: h.b
 s:g.s <+: h.s
 v:g.v <+: h.v
 l:g.l <+: h.l
 p:g.p <+: h.p
theorem uB.refl (g:dw):uB g g:=⟨List.prefix_refl _,List.prefix_refl _,List.prefix_refl _,List.prefix_refl _,List.prefix_refl _,List.prefix_refl _⟩
theorem uB.trans {f g h:dw} (p:uB f g) (q:uB g h):uB f h:=⟨p.i.trans q.i,p.b.trans q.b,p.s.trans q.s,p.v.trans q.v,p.l.trans q.l,p.p.trans q.p⟩
def iK (C0 C:Ctx) (g:dw):Ctx:=(C0.push (g.den C)).heap C.h
theorem gB {α:Type} {l m t:List α} {x d:α} {j:Nat} (hj:l.length+m.length=j) (h:m++[x] <+: t):(l++t).getD j d=x:=by
 obtain⟨u,rfl⟩:=h
 subst hj
 simp
theorem lT {α β:Type} {f:α→β} {l m:List α} (h:l <+: m):l.map f <+: m.map f:=by
 obtain⟨t,rfl⟩:=h
 rw[List.map_append];exact List.prefix_append _ _
section
variable {n:Cnt} {C0 C:Ctx} {ρ:Nat→Nat}
structure Base (n:Cnt) (C0 C:Ctx):Prop where
 ext:ExtL C0 C
 has:Has C0 n
theorem qW (C0 C:Ctx) (g:dw):ExtL C0 (iK C0 C g):=((Ext.push C0 _).trans (Ext.heap _ _)).toExtL
theorem Base.Ed (h:Base n C0 C) (g:dw):Ea n (iK C0 C g) C:=by
 have h1:=(qW C0 C g).Ed h.has
 have h2:=h.ext.Ed h.has
 exact⟨fun k hk=>(h1.i k hk).symm.trans (h2.i k hk),fun k hk=>(h1.b k hk).symm.trans (h2.b k hk),fun k hk=>(h1.s k hk).symm.trans (h2.s k hk),fun k hk=>(h1.v k hk).symm.trans (h2.v k hk),fun k hk=>(h1.l k hk).symm.trans (h2.l k hk),fun k hk=>(h1.p k hk).symm.trans (h2.p k hk)⟩
theorem tV (hB:Base n C0 C) {g g':dw} {c e:CE} (h:EW n g c e=some g'):uB g g'∧∀ G,uB g' G→(∀ x∈G.v,x.plain=true)→c.den (iK C0 C G) ρ=e.den C ρ:=by
 unfold EW at h
 split at h
 · rename_i k j k' e
   split at h
   · rename_i hj
     obtain⟨hj,rfl⟩:=hj
     cases h
     refine⟨⟨List.prefix_append _ _,List.prefix_refl _,List.prefix_refl _,List.prefix_refl _,List.prefix_refl _,List.prefix_refl _⟩,fun G hG _=>?_⟩
     show Value.int k ((C0.i++G.i.map (IE.den C)).getD j 0)=_
     rw[gB (m:=g.i.map (IE.den C)) (x:=e.den C) (by rw[List.length_map,hB.has.i];exact hj) (by have:=lT (f:=IE.den C) hG.i;simpa using this)]
     rfl
   · split at h
     · rename_i hq
       obtain⟨rfl,rfl,hlt⟩:=hq
       cases h
       refine⟨uB.refl _,fun G _ _=>?_⟩
       show Value.int k ((iK C0 C G).i.getD j 0)=Value.int k (C.i.getD j 0)
       rw[(hB.Ed G).i j hlt]
     · cases h
 · rename_i j e
   split at h
   · rename_i hj
     cases h
     refine⟨⟨List.prefix_refl _,List.prefix_append _ _,List.prefix_refl _,List.prefix_refl _,List.prefix_refl _,List.prefix_refl _⟩,fun G hG _=>?_⟩
     show Value.bool ((C0.b++G.b.map (BE.den C)).getD j false)=_
     rw[gB (m:=g.b.map (BE.den C)) (x:=e.den C) (by rw[List.length_map,hB.has.b];exact hj) (by have:=lT (f:=BE.den C) hG.b;simpa using this)]
     rfl
   · split at h
     · rename_i hq
       obtain⟨rfl,hlt⟩:=hq
       cases h
       refine⟨uB.refl _,fun G _ _=>?_⟩
       show Value.bool ((iK C0 C G).b.getD j false)=Value.bool (C.b.getD j false)
       rw[(hB.Ed G).b j hlt]
     · cases h
 · rename_i j e
   split at h
   · rename_i hj
     cases h
     refine⟨⟨List.prefix_refl _,List.prefix_refl _,List.prefix_append _ _,List.prefix_refl _,List.prefix_refl _,List.prefix_refl _⟩,fun G hG _=>?_⟩
     show Value.string (B ((C0.s++G.s.map (SE.den C)).getD j []))=_
     rw[gB (m:=g.s.map (SE.den C)) (x:=e.den C) (by rw[List.length_map,hB.has.s];exact hj) (by have:=lT (f:=SE.den C) hG.s;simpa using this)]
     rfl
   · split at h
     · rename_i hq
       obtain⟨rfl,hlt⟩:=hq
       cases h
       refine⟨uB.refl _,fun G _ _=>?_⟩
       show Value.string (B ((iK C0 C G).s.getD j []))=Value.string (B (C.s.getD j []))
       rw[(hB.Ed G).s j hlt]
     · cases h
 · rename_i j i
   split at h
   · rename_i hj
     cases h
     refine⟨⟨List.prefix_refl _,List.prefix_refl _,List.prefix_refl _,List.prefix_append _ _,List.prefix_refl _,List.prefix_refl _⟩,fun G hG _=>?_⟩
     show (C0.v++G.v.map (CE.den C aP)).getD j undef=_
     rw[gB (m:=g.v.map (CE.den C aP)) (x:=(CE.v i).den C aP) (by rw[List.length_map,hB.has.v];exact hj) (by have:=lT (f:=CE.den C aP) hG.v;simpa using this)]
     rfl
   · split at h
     · rename_i hq
       obtain⟨rfl,hlt⟩:=hq
       cases h
       exact⟨uB.refl _,fun G _ _=>(hB.Ed G).v j hlt⟩
     · cases h
 · rename_i j x
   split at h
   · rename_i hj
     cases h
     refine⟨⟨List.prefix_refl _,List.prefix_refl _,List.prefix_refl _,List.prefix_append _ _,List.prefix_refl _,List.prefix_refl _⟩,fun G hG _=>?_⟩
     show (C0.v++G.v.map (CE.den C aP)).getD j undef=_
     rw[gB (m:=g.v.map (CE.den C aP)) (x:=(CE.c x).den C aP) (by rw[List.length_map,hB.has.v];exact hj) (by have:=lT (f:=CE.den C aP) hG.v;simpa using this)]
     rfl
   · cases h
 · rename_i j e
   split at h
   · rename_i hj
     cases h
     refine⟨⟨List.prefix_refl _,List.prefix_refl _,List.prefix_refl _,List.prefix_refl _,List.prefix_append _ _,List.prefix_refl _⟩,fun G hG _=>?_⟩
     show ((C0.l++G.l.map (LE.den C)).getD j ⟨none,0,0⟩).val=_
     rw[gB (m:=g.l.map (LE.den C)) (x:=e.den C) (by rw[List.length_map,hB.has.l];exact hj) (by have:=lT (f:=LE.den C) hG.l;simpa using this)]
     rfl
   · split at h
     · rename_i hq
       obtain⟨rfl,hlt⟩:=hq
       cases h
       refine⟨uB.refl _,fun G _ _=>?_⟩
       show ((iK C0 C G).l.getD j ⟨none,0,0⟩).val=(C.l.getD j ⟨none,0,0⟩).val
       rw[(hB.Ed G).l j hlt]
     · cases h
 · rename_i j i
   split at h
   · rename_i hj
     cases h
     refine⟨⟨List.prefix_refl _,List.prefix_refl _,List.prefix_refl _,List.prefix_refl _,List.prefix_refl _,List.prefix_append _ _⟩,fun G hG _=>?_⟩
     show Value.pointer (((C0.p++G.p.map fun c=>qM (c.den C aP)).getD j none).map fun x=>⟨x.1,x.2,none⟩)=_
     rw[gB (m:=g.p.map fun c=>qM (c.den C aP)) (x:=qM ((CE.pt i).den C aP)) (by rw[List.length_map,hB.has.p];exact hj) (by have:=lT (f:=fun c:CE=>qM (c.den C aP)) hG.p;simpa using this)]
     show Value.pointer ((qM (Value.pointer ((C.p.getD i none).map fun x=>⟨x.1,x.2,none⟩))).map fun x=>(⟨x.1,x.2,none⟩:Addr))=Value.pointer ((C.p.getD i none).map fun x=>⟨x.1,x.2,none⟩)
     cases C.p.getD i none<;>rfl
   · split at h
     · rename_i hq
       obtain⟨rfl,hlt⟩:=hq
       cases h
       refine⟨uB.refl _,fun G _ _=>?_⟩
       show Value.pointer (((iK C0 C G).p.getD j none).map fun x=>⟨x.1,x.2,none⟩)=Value.pointer ((C.p.getD j none).map fun x=>⟨x.1,x.2,none⟩)
       rw[(hB.Ed G).p j hlt]
     · cases h
 · rename_i j
   split at h
   · rename_i hj
     cases h
     refine⟨⟨List.prefix_refl _,List.prefix_refl _,List.prefix_refl _,List.prefix_refl _,List.prefix_refl _,List.prefix_append _ _⟩,fun G hG _=>?_⟩
     show Value.pointer (((C0.p++G.p.map fun c=>qM (c.den C aP)).getD j none).map fun x=>⟨x.1,x.2,none⟩)=_
     rw[gB (m:=g.p.map fun c=>qM (c.den C aP)) (x:=qM ((CE.c .nilp).den C aP)) (by rw[List.length_map,hB.has.p];exact hj) (by have:=lT (f:=fun c:CE=>qM (c.den C aP)) hG.p;simpa using this)]
     rfl
   · cases h
 · split at h
   · rename_i hq
     obtain⟨rfl,hb⟩:=hq
     cases h
     exact⟨uB.refl _,fun G _ _=>c.aG (hB.Ed G) ρ hb⟩
   · cases h
theorem tX (hB:Base n C0 C):∀ {cs es:List CE} {g g':dw},zg n g cs es=some g'→uB g g'∧∀ G,uB g' G→(∀ x∈G.v,x.plain=true)→cs.map (CE.den (iK C0 C G) ρ)=es.map (CE.den C ρ):=by
 intro cs
 induction cs with
 | nil=>
   intro es g g' h
   cases es with
   | nil=>cases h;exact⟨uB.refl _,fun _ _ _=>rfl⟩
   | cons _ _=>cases h
 | cons c cs ih=>
   intro es g g' h
   cases es with
   | nil=>cases h
   | cons e es=>
     simp only[zg,Option.bind_eq_some_iff] at h
     obtain⟨g1,h1,h2⟩:=h
     obtain⟨a1,b1⟩:=tV (ρ:=ρ) hB h1
     obtain⟨a2,b2⟩:=ih h2
     exact⟨a1.trans a2,fun G hG hp=>by rw[List.map_cons,List.map_cons,b1 G (a2.trans hG) hp,b2 G hG hp]⟩
theorem E8 (hB:Base n C0 C) {g g':dw} {c e:VE} (h:LD n g c e=some g'):uB g g'∧∀ G,uB g' G→(∀ x∈G.v,x.plain=true)→∀ (t u:Array Value) x,e.holds C ρ t x→c.holds (iK C0 C G) ρ u x:=by
 unfold LD at h
 split at h
 · cases h;exact⟨uB.refl _,fun _ _ _ _ _ _ _=>trivial⟩
 · obtain⟨h1,h2⟩:=tV (ρ:=ρ) hB h
   exact⟨h1,fun G hG hp t u x hx=>by show _=_;rw[show PE.den (iK C0 C G) ρ (.one _)=_ from h2 G hG hp];exact hx⟩
 · obtain⟨h1,h2⟩:=tX (ρ:=ρ) hB h
   exact⟨h1,fun G hG hp t u x hx=>by show _=Value.agg _;rw[h2 G hG hp];exact hx⟩
 · cases h
theorem E5 (hB:Base n C0 C):∀ {cs es:List VE} {g g':dw},EZ n g cs es=some g'→uB g g'∧cs.length=es.length∧∀ G,uB g' G→(∀ x∈G.v,x.plain=true)→∀ (t u:Array Value) (i:Nat) c,cs[i]? = some c→∃ e,es[i]? = some e∧∀ x,e.holds C ρ t x→c.holds (iK C0 C G) ρ u x:=by
 intro cs
 induction cs with
 | nil=>
   intro es g g' h
   cases es with
   | nil=>cases h;exact⟨uB.refl _,rfl,fun _ _ _ _ _ _ _ h=>by simp at h⟩
   | cons _ _=>cases h
 | cons c cs ih=>
   intro es g g' h
   cases es with
   | nil=>cases h
   | cons e es=>
     simp only[EZ,Option.bind_eq_some_iff] at h
     obtain⟨g1,h1,h2⟩:=h
     obtain⟨a1,b1⟩:=E8 (ρ:=ρ) hB h1
     obtain⟨a2,l2,b2⟩:=ih h2
     refine⟨a1.trans a2,by simp[l2],fun G hG hp t u i d hd=>?_⟩
     cases i with
     | zero=>
       simp at hd;subst hd
       exact⟨e,rfl,fun x hx=>b1 G (a2.trans hG) hp t u x hx⟩
     | succ i=>exact b2 G hG hp t u i d (by simpa using hd)
theorem EY (hB:Base n C0 C):∀ {cs es:List ou} {g g':dw},EX n g cs es=some g'→uB g g'∧cs.length≤es.length∧∀ G,uB g' G→(∀ x∈G.v,x.plain=true)→∀ (k:Nat) c,cs[k]? = some c→∃ e,es[k]? = some e∧c.ty=e.ty∧c.cells.map (CE.den (iK C0 C G) ρ)=e.cells.map (CE.den C ρ):=by
 intro cs
 induction cs with
 | nil=>intro es g g' h;cases h;exact⟨uB.refl _,Nat.zero_le _,fun _ _ _ _ _ h=>by simp at h⟩
 | cons c cs ih=>
   intro es g g' h
   cases es with
   | nil=>cases h
   | cons e es=>
     simp only[EX] at h
     split at h
     · rename_i hty
       simp only[Option.bind_eq_some_iff] at h
       obtain⟨g1,h1,h2⟩:=h
       obtain⟨a1,b1⟩:=tX (ρ:=ρ) hB h1
       obtain⟨a2,l2,b2⟩:=ih h2
       refine⟨a1.trans a2,by simp;exact l2,fun G hG hp k d hd=>?_⟩
       cases k with
       | zero=>
         simp at hd;subst hd
         exact⟨e,rfl,hty,b1 G (a2.trans hG) hp⟩
       | succ k=>exact b2 G hG hp k d (by simpa using hd)
     · cases h
end
section
variable {P:Program} {E:Env} {B:Nat} {h0:Hp} {w0:World} {ρ:Nat→Nat} {st:St} {C:Ctx} {a:Act} {w:World}
theorem PR {g:dw} {st:St} (R:Rep B h0 w0 ρ st C a w) (hf:g.fits st.n=true):(∀ x∈g.v,x.plain=true)∧dZ (g.v.map (CE.den C aP)):=by
 unfold dw.fits at hf
 have h:=List.all_eq_true.1 hf
 refine⟨fun x hx=>?_,fun u hu=>?_⟩
 · have:=h x hx
   simp only[Bool.and_eq_true] at this
   exact this.1
 · obtain⟨c,hc,rfl⟩:=List.mem_map.1 hu
   have:=h c hc
   simp only[CE.sto,Bool.and_eq_true,decide_eq_true_eq,Bool.not_eq_true'] at this
   exact uH R.ones aP c st.n R.cv.symm this.2.1.1 this.2.1.2 this.2.2
theorem dw.V6 (g:dw) (C:Ctx):(g.den C).cnt=g.cnt:=by simp[dw.den,dw.cnt,Inc.cnt]
theorem Dk {C0:Ctx} {n:Cnt} {hd st:St} {g:dw} (R:Rep B h0 w0 ρ st C a w) (hB:Base n C0 C) (ho0:dZ C0.v) (h:xx n hd st=some g) (hf:g.fits st.n=true) (hn:hd.n=n.add g.cnt):Rep B h0 w0 ρ hd (iK C0 C g) a w:=by
 unfold xx at h
 simp only[Option.bind_eq_some_iff] at h
 obtain⟨g1,h1,h2⟩:=h
 obtain⟨a1,l1,b1⟩:=E5 (ρ:=ρ) hB h1
 obtain⟨a2,l2,b2⟩:=EY (ρ:=ρ) hB h2
 obtain⟨hp,hones⟩:=PR R hf
 have H:Has (iK C0 C g) hd.n:=(hB.has.push (by rw[dw.V6];exact hn.symm)).heap _
 refine⟨R.defers,by rw[R.size,l1],?_,?_,fun k hk=>R.fresh k (by omega),fun k j hk hj=>R.inj k j (by omega) (by omega),fun k hk=>R.free k (by omega),R.holds,R.fr,R.base,H.i,H.b,H.s,H.v,H.l,H.p,gV ho0 hones⟩
 · intro i v hv
   obtain⟨e,he,hh⟩:=b1 g a2 hp a.tmps a.tmps i v hv
   exact hh _ (R.slots i e he)
 · intro k b hb
   obtain⟨e,he,hty,hc⟩:=b2 g (uB.refl _) hp k b hb
   rw[R.blocks k e he,hty,hc]
def After (E:Env) (B:Nat) (h0:Hp) (w0:World) (l:Nat) (C0:Ctx) (K:Exit→St→Fm) (e:Exit) (a:Act) (w:World):Prop:=
 ∃ ρ st D,ExtL C0 D∧(∀ k,k<l→D.m k=C0.m k)∧Rep B h0 w0 ρ st D a w∧(K e st).says E D
theorem After.ext {l l':Nat} {C0 D:Ctx} {K:Exit→St→Fm} {e:Exit} (hx:ExtL C0 D) (hl:l≤l') (hm:∀ k,k<l→D.m k=C0.m k) (h:After E B h0 w0 l' D K e a w):After E B h0 w0 l C0 K e a w:=by
 obtain⟨ρ,st,F,h1,h2,h3,h4⟩:=h
 exact⟨ρ,st,F,hx.trans h1,fun k hk=>(h2 k (by omega)).trans (hm k hk),h3,h4⟩
theorem V5 {C D:Ctx} {n:Cnt} (hx:ExtL C D) (H:Has C n):D.cut n=⟨C.i,C.b,C.s,C.v,C.l,C.p,D.h,D.m⟩:=by
 obtain⟨⟨t1,h1⟩,⟨t2,h2⟩,⟨t3,h3⟩,⟨t4,h4⟩,⟨t5,h5⟩,⟨t6,h6⟩⟩:=hx
 obtain⟨a1,a2,a3,a4,a5,a6⟩:=H
 cases C;cases D
 simp only at h1 h2 h3 h4 h5 h6 a1 a2 a3 a4 a5 a6
 subst h1 h2 h3 h4 h5 h6
 simp[Ctx.cut,← a1,← a2,← a3,← a4,← a5,← a6]
theorem SV {C D:Ctx} {n m k:Cnt} (hx:ExtL C D) (H:Has C n) (K:Has D m) (hm:m=n.add k) (ho:dZ D.v):∃ x:Inc,Same ((C.push x).heap D.h) D∧x.cnt=k∧dZ x.v:=by
 obtain⟨⟨t1,h1⟩,⟨t2,h2⟩,⟨t3,h3⟩,⟨t4,h4⟩,⟨t5,h5⟩,⟨t6,h6⟩⟩:=hx
 obtain⟨a1,a2,a3,a4,a5,a6⟩:=H
 obtain⟨b1,b2,b3,b4,b5,b6⟩:=K
 subst hm
 cases C;cases D
 simp only at h1 h2 h3 h4 h5 h6 a1 a2 a3 a4 a5 a6
 subst h1 h2 h3 h4 h5 h6
 simp only[List.length_append,Cnt.add] at b1 b2 b3 b4 b5 b6
 refine⟨⟨t1,t2,t3,t4,t5,t6⟩,⟨rfl,rfl,rfl,rfl,rfl,rfl⟩,?_,fun u hu=>ho u (List.mem_append_right _ hu)⟩
 cases k
 simp only[Inc.cnt,Cnt.mk.injEq]
 simp only at b1 b2 b3 b4 b5 b6
 omega
def Q9 (P:Program):Code→(Exit→Act→World→Prop)→Act→World→Prop
 | .seq x y,Q,a,w=>match wY x with
   | some _=>Q9 P x (Exit.then (y.wp P Q) Q) a w
   | none=>Q9 P y Q a w
 | .label _,Q,a,w=>Q .normal a w
 | _,_,_,_=>False
theorem Q5 {Q Q':Exit→Act→World→Prop} {K K':Act→World→Prop} (hq:∀ e a w,Q e a w→Q' e a w) (hk:∀ a w,K a w→K' a w):∀ e a w,Exit.then K Q e a w→Exit.then K' Q' e a w:=by
 intro e a w h
 cases e with
 | normal=>exact hk a w h
 | exit id=>exact hq _ a w h
 | goto l=>exact hq _ a w h
 | ret=>exact hq _ a w h
 | panic ch=>exact hq _ a w h
 | outgrown=>exact hq _ a w h
theorem uz (c:Code):∀ {Q Q':Exit→Act→World→Prop} {a:Act} {w:World},Q9 P c Q a w→(∀ e a w,Q e a w→Q' e a w)→Q9 P c Q' a w:=by
 induction c with
 | seq x y ihx ihy=>
   intro Q Q' a w h hq
   rw[Q9] at h⊢
   split at h
   · exact ihx h (Q5 hq (fun a w h=>wp_mono h hq))
   · exact ihy h hq
 | label l=>intro Q Q' a w h hq;exact hq _ a w h
 | _=>intro Q Q' a w h hq;exact h.elim
theorem CB (c:Code):∀ {l:Nat},wY c=some l→∃ rest,findLabel c l=some rest:=by
 induction c with
 | seq x y ihx ihy=>
   intro l h
   rw[wY] at h
   split at h
   · rename_i l' hx
     cases h
     obtain⟨r,hr⟩:=ihx hx
     exact⟨_,by rw[findLabel,hr]⟩
   · rename_i hx
     obtain⟨r,hr⟩:=ihy h
     rw[findLabel]
     cases hq:findLabel x l with
     | some r'=>exact⟨_,rfl⟩
     | none=>exact⟨r,hr⟩
 | label m=>intro l h;cases h;exact⟨.skip,by simp[findLabel]⟩
 | _=>intro l h;cases h
theorem PQ (c:Code):∀ {l:Nat},wY c=none→findLabel c l=none:=by
 induction c with
 | seq x y ihx ihy=>
   intro l h
   rw[wY] at h
   split at h
   · cases h
   · rename_i hx
     rw[findLabel,ihx hx]
     exact ihy h
 | label m=>intro l h;cases h
 | _=>intro l h;rfl
theorem VF (c:Code):∀ {Q:Exit→Act→World→Prop} {a:Act} {w:World} {l:Nat} {rest:Code},Q9 P c Q a w→wY c=some l→findLabel c l=some rest→rest.wp P Q a w:=by
 induction c with
 | seq x y ihx ihy=>
   intro Q a w l rest h hl hf
   rw[Q9] at h
   rw[wY] at hl
   rw[findLabel] at hf
   split at h
   · rename_i l' hx
     rw[hx] at hl
     cases hl
     obtain⟨r,hr⟩:=CB x hx
     rw[hr] at hf
     cases hf
     exact wp_seq (ihx h hx hr)
   · rename_i hx
     rw[hx] at hl
     rw[PQ x hx] at hf
     exact ihy h hl hf
 | label m=>
   intro Q a w l rest h hl hf
   cases hl
   simp[findLabel] at hf
   subst hf
   exact wp_skip h
 | _=>intro Q a w l rest h;exact h.elim
theorem vW {C0:Ctx} {st0:St} {A:dL} {l:Nat} {D D':Ctx} {st':St} (H0:Has C0 st0.n) (ho0:dZ C0.v) (hx:ExtL C0 D) (hx':ExtL D D') (R':Rep B h0 w0 ρ st' D' a w)
 (hm:D'.m l=E.meas l D.bare) (hs:(xO l st0.n (jC A st0) st').says E D'):
 ∃ F,ExtL C0 F∧F.m=C0.m∧Rep B h0 w0 ρ (jC A st0) F a w∧E.inv l F.bare∧E.meas l F.bare<E.meas l D.bare:=by
 unfold xO at hs
 split at hs
 · rename_i g' hg'
   split at hs
   · exact hs.elim
   · rename_i hck'
     simp only[Bool.not_eq_true,Bool.not_eq_false',Bool.and_eq_true,decide_eq_true_eq] at hck'
     obtain⟨hinv',hmeas⟩:=hs
     have e1:=V5 (hx.trans hx') H0
     have hB':Base st0.n C0 D':=⟨hx.trans hx',H0⟩
     have R2:=Dk R' hB' ho0 hg' hck'.1 hck'.2
     have e2:((D'.cut st0.n).push (g'.den D')).bare=(iK C0 D' g').bare:=by rw[e1];rfl
     rw[e2] at hinv' hmeas
     exact⟨_,qW _ _ _,rfl,R2,hinv',by rw[← hm];exact hmeas⟩
 · exact hs.elim
theorem yX {A:dL} {l:Nat} {F:St→Fm} (R:Rep B h0 w0 ρ st C a w) (hs:(Oy l A st F).says E C):
 ∃ D,ExtL C D∧D.m=C.m∧Rep B h0 w0 ρ (jC A st) D a w∧E.inv l D.bare∧∀ ρ D a w,ExtL C D→D.m=C.m→Rep B h0 w0 ρ (jC A st) D a w→E.inv l D.bare→(F (jC A st)).says E (D.mark l (E.meas l D.bare)):=by
 unfold Oy at hs
 split at hs
 · rename_i g hg
   split at hs
   · exact hs.elim
   · rename_i hck
     simp only[Bool.not_eq_true,Bool.not_eq_false',Bool.and_eq_true,decide_eq_true_eq] at hck
     obtain⟨hfit,hn⟩:=hck
     obtain⟨hinv,hall⟩:=hs
     have hB:Base st.n C C:=⟨ExtL.refl C,R.has⟩
     have R1:=Dk R hB R.ones hg hfit hn
     refine⟨_,qW _ _ _,rfl,R1,hinv,fun ρ D a w hx hm RD hi=>?_⟩
     rw[xP] at hall
     obtain⟨x,hDe,hxc,hxo⟩:=SV hx R.has RD.has hn RD.ones
     have e:(C.push x).heap D.h=D:=by
      obtain⟨e1,e2,e3,e4,e5,e6⟩:=hDe
      cases D
      simp only[Ctx.push,Ctx.heap] at e1 e2 e3 e4 e5 e6 hm⊢
      subst hm
      simp only[e1,e2,e3,e4,e5,e6]
     have:=hall x hxc hxo D.h
     rw[e] at this
     exact this hi
 · exact hs.elim
theorem y9 (C:Ctx) {l n k:Nat} (h:k≠l):(C.mark l n).m k=C.m k:=by simp[Ctx.mark,h]
theorem OA (C:Ctx) (l n:Nat):(C.mark l n).m l=n:=by simp[Ctx.mark]
theorem Rep.mark (R:Rep B h0 w0 ρ st C a w) (l n:Nat):Rep B h0 w0 ρ st (C.mark l n) a w:=R.same ⟨rfl,rfl,rfl,rfl,rfl,rfl⟩ rfl
theorem ExtL.mark (C:Ctx) (l n:Nat):ExtL C (C.mark l n):=⟨List.prefix_refl _,List.prefix_refl _,List.prefix_refl _,List.prefix_refl _,List.prefix_refl _,List.prefix_refl _⟩
theorem AC {Q:Exit→Act→World→Prop} {c rest:Code} (l:Nat) (I:Nat→Act→World→Prop) (hf:findLabel c l=some rest)
 (first:c.wp P (Exit.jump l (fun a w=>∃ n,I n a w) Q) a w)
 (pass:∀ n a w,I n a w→rest.wp P (Exit.jump l (fun a' w'=>∃ n',n'<n∧I n' a' w') Q) a w):(Code.scope c).wp P Q a w:=by
 refine wp_scope_jumps l (fun a w=>∃ n,I n a w) (fun a w=>leastOf (fun n=>I n a w)) hf first ?_
 intro a w hI
 refine wp_mono (pass _ a w (leastOf_spec hI).1) ?_
 intro e a' w' hq
 cases e with
 | goto j=>
   obtain⟨hj,n',hlt,hI'⟩:=hq
   exact⟨hj,⟨n',hI'⟩,Nat.lt_of_le_of_lt ((leastOf_spec ⟨n',hI'⟩).2 n' hI') hlt⟩
 | normal=>exact hq
 | exit id=>exact hq
 | ret=>exact hq
 | panic ch=>exact hq
 | outgrown=>exact hq
theorem KX (hE:Good P E) (nw:iy) (A:Nat→dL) (c:Code):
 (∀ (l:Nat) (st:St) (K:Exit→St→Fm) (ρ:Nat→Nat) (C:Ctx) (a:Act) (w:World),Rep B h0 w0 ρ st C a w→(gen nw P A c l st K).says E C→c.wp P (After E B h0 w0 l C K) a w)∧
 (∀ (l:Nat) (st:St) (K:Exit→St→Fm) (ρ:Nat→Nat) (C:Ctx) (a:Act) (w:World) (Q:Exit→Act→World→Prop),Rep B h0 w0 ρ st C a w→(Ti nw P A c l st K).says E C→
  (∀ ρ st D a w,ExtL C D→(∀ k,k<l→D.m k=C.m k)→Rep B h0 w0 ρ st D a w→(K .normal st).says E D→Q9 P c Q a w)→
  (∀ e,e≠.normal→∀ ρ st D a w,ExtL C D→(∀ k,k<l→D.m k=C.m k)→Rep B h0 w0 ρ st D a w→(K e st).says E D→Q e a w)→c.wp P Q a w)∧
 (∀ (l:Nat) (st:St) (K:Exit→St→Fm) (ρ:Nat→Nat) (C:Ctx) (a:Act) (w:World),Rep B h0 w0 ρ st C a w→(PX nw P A c l st K).says E C→Q9 P c (After E B h0 w0 l C K) a w):=by
 induction c with
 | skip=>exact⟨fun l st K ρ C a w R hs=>wp_skip ⟨ρ,st,C,ExtL.refl C,fun _ _=>rfl,R,hs⟩,fun l st K ρ C a w Q R hs=>(hs:False).elim,fun l st K ρ C a w R hs=>(hs:False).elim⟩
 | region id ops draw=>
   refine⟨?_,fun l st K ρ C a w Q R hs=>(hs:False).elim,fun l st K ρ C a w R hs=>(hs:False).elim⟩
   intro l st K ρ C a w R hs
   cases draw with
   | true=>
     simp only[gen] at hs
     split at hs
     · rename_i hm
       exact G9 hm hE R hs fun ρ st D a w hx R hs=>⟨ρ,st,D,hx.toExtL,fun _ _=>by rw[hx.m],R,hs⟩
     · exact (hs:False).elim
   | false=>
     refine wp_region_list ?_
     simp only[gen] at hs
     exact EE hE R hs fun ρ st D a w hx R hs=>⟨ρ,st,D,hx.toExtL,fun _ _=>by rw[hx.m],R,hs⟩
 | seq x y ihx ihy=>
   have hgen:∀ (l:Nat) (st:St) (K:Exit→St→Fm) (ρ:Nat→Nat) (C:Ctx) (a:Act) (w:World),Rep B h0 w0 ρ st C a w→(gen nw P A (.seq x y) l st K).says E C→(Code.seq x y).wp P (After E B h0 w0 l C K) a w:=by
    intro l st K ρ C a w R hs
    rw[gen] at hs
    refine wp_seq ?_
    refine wp_mono (ihx.1 l st _ ρ C a w R hs) ?_
    rintro e a w ⟨ρ,st,D,hx,hm,R,hs⟩
    cases e with
    | normal=>exact wp_mono (ihy.1 _ st K ρ D a w R hs) fun e a w h=>h.ext hx (by omega) hm
    | exit id=>exact⟨ρ,st,D,hx,hm,R,hs⟩
    | goto l=>exact⟨ρ,st,D,hx,hm,R,hs⟩
    | ret=>exact⟨ρ,st,D,hx,hm,R,hs⟩
    | panic ch=>exact⟨ρ,st,D,hx,hm,R,hs⟩
    | outgrown=>exact⟨ρ,st,D,hx,hm,R,hs⟩
   refine⟨hgen,?_,?_⟩
   · intro l st K ρ C a w Q R hs hn ho
     rw[Ti] at hs
     refine wp_seq ?_
     split at hs
     · rename_i l' hl
       refine ihx.2.1 l st K ρ C a w _ R hs (fun ρ st D a w hx hm R hs=>?_) (fun e he ρ st D a w hx hm R hs=>?_)
       · have:=hn ρ st D a w hx hm R hs
         rw[Q9,hl] at this
         exact this
       · have:=ho e he ρ st D a w hx hm R hs
         cases e with
         | normal=>exact absurd rfl he
         | exit id=>exact this
         | goto l=>exact this
         | ret=>exact this
         | panic ch=>exact this
         | outgrown=>exact this
     · rename_i hl
       refine wp_mono (ihx.1 l st _ ρ C a w R hs) ?_
       rintro e a w ⟨ρ,st,D,hx,hm,R,hs⟩
       cases e with
       | normal=>
         refine ihy.2.1 _ st K ρ D a w Q R hs (fun ρ st F a w hx2 hm2 R hs=>?_) (fun e he ρ st F a w hx2 hm2 R hs=>ho e he ρ st F a w (hx.trans hx2) (fun k hk=>(hm2 k (by omega)).trans (hm k hk)) R hs)
         have:=hn ρ st F a w (hx.trans hx2) (fun k hk=>(hm2 k (by omega)).trans (hm k hk)) R hs
         rw[Q9,hl] at this
         exact this
       | exit id=>exact ho _ (by simp) ρ st D a w hx hm R hs
       | goto l=>exact ho _ (by simp) ρ st D a w hx hm R hs
       | ret=>exact ho _ (by simp) ρ st D a w hx hm R hs
       | panic ch=>exact ho _ (by simp) ρ st D a w hx hm R hs
       | outgrown=>exact ho _ (by simp) ρ st D a w hx hm R hs
   · intro l st K ρ C a w R hs
     rw[PX] at hs
     rw[Q9]
     split at hs
     · rename_i l' hl
       rw[hl]
       refine uz x (ihx.2.2 l st _ ρ C a w R hs) ?_
       rintro e a w ⟨ρ,st,D,hx,hm,R,hs⟩
       cases e with
       | normal=>exact wp_mono (ihy.1 _ st K ρ D a w R hs) fun e a w h=>h.ext hx (by omega) hm
       | exit id=>exact⟨ρ,st,D,hx,hm,R,hs⟩
       | goto l=>exact⟨ρ,st,D,hx,hm,R,hs⟩
       | ret=>exact⟨ρ,st,D,hx,hm,R,hs⟩
       | panic ch=>exact⟨ρ,st,D,hx,hm,R,hs⟩
       | outgrown=>exact⟨ρ,st,D,hx,hm,R,hs⟩
     · rename_i hl
       rw[hl]
       exact uz y (ihy.2.2 _ st K ρ C a w R hs) fun e a w h=>h.ext (ExtL.refl C) (by omega) (fun _ _=>rfl)
 | cond c x y ihx ihy=>
   refine⟨?_,fun l st K ρ C a w Q R hs=>(hs:False).elim,fun l st K ρ C a w R hs=>(hs:False).elim⟩
   intro l st K ρ C a w R hs
   simp only[gen] at hs
   split at hs
   · rename_i hc
     have:=az R (aK _) hc
     exact wp_cond_true this (ihx.1 l st K ρ C a w R hs)
   · rename_i hc
     have:=az R (aK _) hc
     exact wp_cond_false this (wp_mono (ihy.1 _ st K ρ C a w R hs) fun e a w h=>h.ext (ExtL.refl C) (by omega) (fun _ _=>rfl))
   · rename_i e h1 h2 hc
     have:=az R (aK _) hc
     exact wp_cond_split this (fun ht=>ihx.1 l _ K ρ C a w (DR R hc ht) (hs.1 ht)) (fun hf=>wp_mono (ihy.1 _ _ K ρ C a w (DR R hc hf) (hs.2 hf)) fun e a w h=>h.ext (ExtL.refl C) (by omega) (fun _ _=>rfl))
   · exact hs.elim
 | block id c ih=>
   refine⟨?_,fun l st K ρ C a w Q R hs=>(hs:False).elim,fun l st K ρ C a w R hs=>(hs:False).elim⟩
   intro l st K ρ C a w R hs
   rw[gen] at hs
   refine wp_block ?_
   refine wp_mono (ih.1 l st _ ρ C a w R hs) ?_
   rintro e a w ⟨ρ,st,D,hx,hm,R,hs⟩
   cases e with
   | exit j=>
     simp only[Exit.inBlock]
     simp only at hs
     split at hs
     · rename_i h;rw[if_pos h];exact⟨ρ,st,D,hx,hm,R,hs⟩
     · rename_i h;rw[if_neg h];exact⟨ρ,st,D,hx,hm,R,hs⟩
   | normal=>exact⟨ρ,st,D,hx,hm,R,hs⟩
   | goto l=>exact⟨ρ,st,D,hx,hm,R,hs⟩
   | ret=>exact⟨ρ,st,D,hx,hm,R,hs⟩
   | panic ch=>exact⟨ρ,st,D,hx,hm,R,hs⟩
   | outgrown=>exact⟨ρ,st,D,hx,hm,R,hs⟩
 | loop c ih=>
   refine⟨?_,fun l st K ρ C a w Q R hs=>(hs:False).elim,fun l st K ρ C a w R hs=>(hs:False).elim⟩
   intro l st K ρ C a w R hs
   rw[gen] at hs
   obtain⟨D0,hx0,hm0,R0,hi0,hbody⟩:=yX R hs
   refine wp_loop_ghost (fun m a w=>∃ ρ D,ExtL C D∧D.m=C.m∧Rep B h0 w0 ρ (jC (A l) st) D a w∧E.inv l D.bare∧E.meas l D.bare=m) (E.meas l D0.bare) ⟨ρ,D0,hx0,hm0,R0,hi0,rfl⟩ ?_
   rintro m a w ⟨ρ,D,hx,hmD,RD,hi,rfl⟩
   refine wp_mono (ih.1 (l+1) _ _ ρ (D.mark l (E.meas l D.bare)) a w (RD.mark _ _) (hbody ρ D a w hx hmD RD hi)) ?_
   rintro e a w ⟨ρ,st',D',hx',hm',R',hs'⟩
   have hxD':ExtL D D':=(ExtL.mark D _ _).trans hx'
   have hmm:∀ k,k<l→D'.m k=C.m k:=fun k hk=>by rw[hm' k (by omega),y9 D (by omega),hmD]
   cases e with
   | normal=>
     obtain⟨F,h1,h1',h2,h3,h4⟩:=vW R.has R.ones hx hxD' R' (by rw[hm' l (by omega),OA]) hs'
     exact⟨_,h4,ρ,F,h1,h1',h2,h3,rfl⟩
   | exit id=>exact⟨ρ,st',D',hx.trans hxD',hmm,R',hs'⟩
   | goto l=>exact⟨ρ,st',D',hx.trans hxD',hmm,R',hs'⟩
   | ret=>exact⟨ρ,st',D',hx.trans hxD',hmm,R',hs'⟩
   | panic ch=>exact⟨ρ,st',D',hx.trans hxD',hmm,R',hs'⟩
   | outgrown=>exact⟨ρ,st',D',hx.trans hxD',hmm,R',hs'⟩
 | scope c ih=>
   refine⟨?_,fun l st K ρ C a w Q R hs=>(hs:False).elim,fun l st K ρ C a w R hs=>(hs:False).elim⟩
   intro l st K ρ C a w R hs
   rw[gen] at hs
   split at hs
   · exact hs.elim
   · rename_i lb hlb
     obtain⟨rest,hf⟩:=CB c hlb
     let I:Nat→Act→World→Prop:=fun m a w=>∃ st1 C1 ρ D,ExtL C C1∧(∀ k,k<l→C1.m k=C.m k)∧Has C1 st1.n∧dZ C1.v∧ExtL C1 D∧D.m=C1.m∧Rep B h0 w0 ρ (jC (A l) st1) D a w∧E.inv l D.bare∧E.meas l D.bare=m∧
      ∀ ρ D a w,ExtL C1 D→D.m=C1.m→Rep B h0 w0 ρ (jC (A l) st1) D a w→E.inv l D.bare→(PX nw P A c (l+1) (jC (A l) st1) fun e st'=>match e with
       | .goto j=>if j=lb then xO l st1.n (jC (A l) st1) st' else .ff
       | e=>K e st').says E (D.mark l (E.meas l D.bare))
     have pass:∀ m a w,I m a w→Q9 P c (Exit.jump lb (fun a' w'=>∃ n',n'<m∧I n' a' w') (After E B h0 w0 l C K)) a w:=by
      rintro m a w ⟨st1,C1,ρ,D,hC1,hmC,H1,ho1,hx,hmD,RD,hi,rfl,hbody⟩
      refine uz c (ih.2.2 (l+1) _ _ ρ (D.mark l (E.meas l D.bare)) a w (RD.mark _ _) (hbody ρ D a w hx hmD RD hi)) ?_
      rintro e a w ⟨ρ,st',D',hx',hm',R',hs'⟩
      have hxD':ExtL D D':=(ExtL.mark D _ _).trans hx'
      have hmm:∀ k,k<l→D'.m k=C.m k:=fun k hk=>by rw[hm' k (by omega),y9 D (by omega),hmD,hmC k hk]
      cases e with
      | goto j=>
        simp only at hs'
        split at hs'
        · rename_i hj
          obtain⟨F,h1,h1',h2,h3,h4⟩:=vW H1 ho1 hx hxD' R' (by rw[hm' l (by omega),OA]) hs'
          exact⟨hj,_,h4,st1,C1,ρ,F,hC1,hmC,H1,ho1,h1,h1',h2,h3,rfl,hbody⟩
        · exact (hs':False).elim
      | normal=>exact⟨ρ,st',D',(hC1.trans hx).trans hxD',hmm,R',hs'⟩
      | exit id=>exact⟨ρ,st',D',(hC1.trans hx).trans hxD',hmm,R',hs'⟩
      | ret=>exact⟨ρ,st',D',(hC1.trans hx).trans hxD',hmm,R',hs'⟩
      | panic ch=>exact⟨ρ,st',D',(hC1.trans hx).trans hxD',hmm,R',hs'⟩
      | outgrown=>exact⟨ρ,st',D',(hC1.trans hx).trans hxD',hmm,R',hs'⟩
     refine AC lb I hf ?_ (fun m a w hI=>VF c (pass m a w hI) hlb hf)
     refine ih.2.1 (l+1) st _ ρ C a w _ R hs (fun ρ st1 C1 a w hx hm1 R1 hs1=>?_) (fun e he ρ st1 C1 a w hx hm1 R1 hs1=>?_)
     · obtain⟨D0,hx0,hm0,R0,hi0,hbody⟩:=yX R1 hs1
       refine uz c (pass _ a w ⟨st1,C1,ρ,D0,hx,fun k hk=>hm1 k (by omega),R1.has,R1.ones,hx0,hm0,R0,hi0,rfl,hbody⟩) ?_
       intro e a w h
       cases e with
       | goto j=>exact⟨h.1,h.2.choose,h.2.choose_spec.2⟩
       | normal=>exact h
       | exit id=>exact h
       | ret=>exact h
       | panic ch=>exact h
       | outgrown=>exact h
     · cases e with
       | normal=>exact absurd rfl he
       | goto j=>exact (hs1:False).elim
       | exit id=>exact⟨ρ,st1,C1,hx,fun k hk=>hm1 k (by omega),R1,hs1⟩
       | ret=>exact⟨ρ,st1,C1,hx,fun k hk=>hm1 k (by omega),R1,hs1⟩
       | panic ch=>exact⟨ρ,st1,C1,hx,fun k hk=>hm1 k (by omega),R1,hs1⟩
       | outgrown=>exact⟨ρ,st1,C1,hx,fun k hk=>hm1 k (by omega),R1,hs1⟩
 | exit id=>exact⟨fun l st K ρ C a w R hs=>wp_exit ⟨ρ,st,C,ExtL.refl C,fun _ _=>rfl,R,hs⟩,fun l st K ρ C a w Q R hs=>(hs:False).elim,fun l st K ρ C a w R hs=>(hs:False).elim⟩
 | ret=>exact⟨fun l st K ρ C a w R hs=>wp_ret ⟨ρ,st,C,ExtL.refl C,fun _ _=>rfl,R,hs⟩,fun l st K ρ C a w Q R hs=>(hs:False).elim,fun l st K ρ C a w R hs=>(hs:False).elim⟩
 | rangeFunc f p x y _ _=>exact⟨fun l st K ρ C a w R hs=>(hs:False).elim,fun l st K ρ C a w Q R hs=>(hs:False).elim,fun l st K ρ C a w R hs=>(hs:False).elim⟩
 | label m=>
   refine⟨fun l st K ρ C a w R hs=>(hs:False).elim,fun l st K ρ C a w Q R hs hn ho=>?_,fun l st K ρ C a w R hs=>?_⟩
   · exact wp_label (hn ρ st C a w (ExtL.refl C) (fun _ _=>rfl) R hs)
   · exact⟨ρ,st,C,ExtL.refl C,fun _ _=>rfl,R,hs⟩
 | goto m=>exact⟨fun l st K ρ C a w R hs=>wp_goto ⟨ρ,st,C,ExtL.refl C,fun _ _=>rfl,R,hs⟩,fun l st K ρ C a w Q R hs=>(hs:False).elim,fun l st K ρ C a w R hs=>(hs:False).elim⟩
 | refuse s=>exact⟨fun l st K ρ C a w R hs=>(hs:False).elim,fun l st K ρ C a w Q R hs=>(hs:False).elim,fun l st K ρ C a w R hs=>(hs:False).elim⟩
theorem Qb (hE:Good P E) (nw:iy) (A:Nat→dL) (c:Code) (l:Nat) (st:St) (K:Exit→St→Fm) (ρ:Nat→Nat) (C:Ctx) (a:Act) (w:World) (R:Rep B h0 w0 ρ st C a w) (hs:(gen nw P A c l st K).says E C):
 c.wp P (After E B h0 w0 l C K) a w:=(KX hE nw A c).1 l st K ρ C a w R hs
end
end Go.Proofs.YtgpanefhaiohnaaGreatDoor
namespace Go.Proofs.YtgpanefhaiohnaaGreatDoor
open Go.RowKit
section
variable {P:Program} {E:Env} {B:Nat} {h0:Hp} {w0:World} {ρ:Nat→Nat} {st:St} {C:Ctx} {a:Act} {w:World}
def QT (t:Array Value):ResultVar→Sem Value
 | .tmp s=>pure (t.getD s undef)
 | .cell x ty=>do loadVar ty (← asAddr (t.getD x undef))
theorem ML (fn:Func) (t:Array Value):results fn t=(do let vs ← fn.results.mapM (QT t);pure (if h:vs.size=1 then vs[0] else .tuple vs)):=by
 unfold results
 congr 1
theorem UX (R:Rep B h0 w0 ρ st C a w) {r:ResultVar} {p:PE} (h:resV P st r=some p):(QT a.tmps r).run P w=.ok (p.den C ρ) w:=by
 cases r with
 | tmp t=>
   have e:a.tmps.getD t undef=p.den C ρ:=az (x:=.tmp t) R (aK _) h
   simp only[QT,e,Sem.run_pure]
 | cell x t=>
   simp only[resV,Option.bind_eq_some_iff] at h
   obtain⟨q,hq,hl⟩:=h
   have e:a.tmps.getD x undef=q.den C ρ:=az (x:=.tmp x) R (aK _) hq
   have hrun:=yT R hl
   unfold wE at hl
   split at hl
   · rename_i k o
     simp only[QT,e,PE.den,CE.den]
     exact hrun
   · cases hl
theorem QV (R:Rep B h0 w0 ρ st C a w):∀ {rs:List ResultVar} {ps:List PE},Jr P st rs=some ps→(rs.mapM (QT a.tmps)).run P w=.ok (ps.map (PE.den C ρ)) w:=by
 intro rs
 induction rs with
 | nil=>intro ps h;cases h;rfl
 | cons r rs ih=>
   intro ps h
   rw[Jr] at h
   split at h
   · rename_i x xs hx hxs
     cases h
     rw[List.mapM_cons,Sem.run_bind,UX R hx,Result.andThen_ok,Sem.run_bind,ih hxs,Result.andThen_ok]
     rfl
   · cases h
def ZY (C:Ctx) (ρ:Nat→Nat):List PE→Value
 | [x]=>x.den C ρ
 | xs=>.tuple (xs.map (PE.den C ρ)).toArray
theorem wL (R:Rep B h0 w0 ρ st C a w) {fn:Func} {ps:List PE} (h:Jr P st fn.results.toList=some ps):(results fn a.tmps).run P w=.ok (ZY C ρ ps) w:=by
 rw[ML,Sem.run_bind,Array.mapM_eq_mapM_toList]
 show ((do let x ← fn.results.toList.mapM (QT a.tmps);pure x.toArray:Sem (Array Value)).run P w).andThen _=_
 rw[Sem.run_bind,QV R h,Result.andThen_ok]
 simp only[Sem.run_pure,Result.andThen_ok]
 congr 1
 match ps with
 | []=>rfl
 | [x]=>rfl
 | x::y::l=>rw[dif_neg (by simp)];rfl
theorem zY (R:Rep B h0 w0 ρ st C a w) {fn:Func} (hs:(Xq P fn st).says E C):∃ v,(results fn a.tmps).run P w=.ok v w∧E.post v C.h:=by
 unfold Xq at hs
 split at hs
 · rename_i x hx
   split at hs
   · rename_i hp
     refine⟨_,wL R hx,?_⟩
     have:E.post (x.den C aP) C.h:=hs
     rw[x.eF (σ:=ρ) hp] at this
     exact this
   · exact hs.elim
 · rename_i xs hne hx
   split at hs
   · rename_i hp
     refine⟨_,wL R hx,?_⟩
     have:E.post (.tuple (xs.map (PE.den C aP)).toArray) C.h:=hs
     rw[show xs.map (PE.den C aP)=xs.map (PE.den C ρ) from List.map_congr_left fun x hx=>PE.eF x (List.all_eq_true.1 hp x hx)] at this
     match xs,hne,this with
     | [],_,h=>exact h
     | [y],hne,_=>exact absurd rfl (hne y)
     | x::y::l,_,h=>exact h
   · exact hs.elim
 · exact hs.elim
end
theorem vZ {P:Program} {f:FuncId} {fn:Func} (hf:P.funcs[f]? = some fn) (nw:iy) (A:Nat→dL) {E:Env} (hE:Good P E) {fm:Fm} {ps:List PE} {n:Cnt} (hfm:qU nw P A fn ps n=fm)
 (C:Ctx) (hC:Has C n) (ho:dZ C.v)
 (h:fm.says E C) (w:World) (hH:Holds C.h w) {args:Array Value} (ha:args.toList=ps.map (PE.den C aP)):
 Calls P f args w fun e w'=>∃ v k,e=.returned v∧E.post v k∧Holds k w'∧Fr w.heap.size C.h k w w':=by
 subst hfm
 unfold qU at h
 split at h
 · rename_i c hbody
   refine calls_of_wp hf hbody ?_
   have hsz:args.size=ps.length:=by
    have:=congrArg List.length ha
    simpa using this
   have R:Rep w.heap.size C.h w aP ⟨ps.map .p++List.replicate (fn.ntmps - ps.length) .dead,[],n⟩ C { tmps:=args++Array.replicate (fn.ntmps - args.size) undef,defers:=[] } w:=by
    refine⟨rfl,by simp[hsz],?_,fun k b hk=>by simp at hk,fun k hk=>by simp at hk,fun k j hk=>by simp at hk,fun k hk=>by simp at hk,hH,Fr.refl _ _ _,Nat.le_refl _,hC.i,hC.b,hC.s,hC.v,hC.l,hC.p,ho⟩
    intro i v hiv
    by_cases hlt:i<ps.length
    · rw[List.getElem?_append_left (by simpa using hlt)] at hiv
      simp only[List.getElem?_map,List.getElem?_eq_getElem hlt,Option.map_some,Option.some.injEq] at hiv
      subst hiv
      show _=_
      have hai:args.toList[i]? = some (ps[i].den C aP):=by rw[ha];simp[hlt]
      have hax:args[i]? = some (ps[i].den C aP):=by simpa using hai
      rw[Array.getD_eq_getD_getElem?,Array.getElem?_append_left (by omega),hax]
      rfl
    · rw[List.getElem?_append_right (by simp;omega)] at hiv
      have:=List.mem_of_getElem? hiv
      rw[List.eq_of_mem_replicate this]
      trivial
   refine wp_mono (Qb hE nw A c 0 _ _ aP C _ w R h) ?_
   rintro e a w' ⟨ρ,st,D,hx,_,R',hs'⟩
   cases e with
   | normal=>
     obtain⟨v,h1,h2⟩:=zY R' hs'
     exact⟨R'.defers,v,h1,v,_,rfl,h2,R'.holds,R'.fr⟩
   | ret=>
     obtain⟨v,h1,h2⟩:=zY R' hs'
     exact⟨R'.defers,v,h1,v,_,rfl,h2,R'.holds,R'.fr⟩
   | exit id=>exact (hs':False).elim
   | goto l=>exact (hs':False).elim
   | panic ch=>exact (hs':False).elim
   | outgrown=>exact (hs':False).elim
 · exact h.elim
theorem Ko {P:Program} {f:FuncId} {fn:Func} (hf:P.funcs[f]? = some fn) (nw:iy) (A:Nat→dL) {E:Env} (hE:Good P E) {fm:Fm} (hfm:df nw P A fn=fm) {ps:List PE} {n:Cnt}
 (hp:aX P .zero fn.params.toList=some (ps,n)) (C:Ctx) (hC:Has C n) (ho:dZ C.v)
 (h:fm.says E C) (w:World) (hH:Holds C.h w) {args:Array Value} (ha:args.toList=ps.map (PE.den C aP)):
 Calls P f args w fun e w'=>∃ v k,e=.returned v∧E.post v k∧Holds k w'∧Fr w.heap.size C.h k w w':=by
 refine vZ hf nw A hE ?_ C hC ho h w hH ha
 unfold df at hfm
 rw[hp] at hfm
 exact hfm
structure Ct (P:Program) where
 f:FuncId
 spec:List Value→Hp→(Value→Hp→Prop)→Prop
 ok:∀ args h φ w,spec args h φ→Holds h w→Calls P f args.toArray w fun e w'=>∃ v k,e=.returned v∧φ v k∧Holds k w'∧Fr w.heap.size h k w w'
def bQ {P:Program}:List (Ct P)→FuncId→List Value→Hp→(Value→Hp→Prop)→Prop
 | [],_,_,_,_=>False
 | c::cs,f,args,h,φ=>if c.f=f then c.spec args h φ else bQ cs f args h φ
def aB {P:Program} (cs:List (Ct P)) (f:FuncId) (args:List Value) (h:Hp) (φ:Value→Hp→Prop):Prop:=
 if f=bu then ∃ args' f' cap,args=.func (.func f') #[] (List.toArray cap)::args'∧gJ P f'=true∧f'≠bu∧bQ cs f' (args'++cap) h φ else if bu<f then Uk P f args h φ else bQ cs f args h φ
theorem Ap {P:Program} (cs:List (Ct P)):∀ f args h φ w,bQ cs f args h φ→Holds h w→Calls P f args.toArray w fun e w'=>∃ v k,e=.returned v∧φ v k∧Holds k w'∧Fr w.heap.size h k w w':=by
 induction cs with
 | nil=>intro f args hh φ w h;exact h.elim
 | cons c cs ih=>
   intro f args hh φ w h hH
   rw[bQ] at h
   split at h
   · rename_i hf
     subst hf
     exact c.ok args hh φ w h hH
   · exact ih f args hh φ w h hH
theorem wP {P:Program} (cs:List (Ct P)):∀ f args h φ w,aB cs f args h φ→Holds h w→
 if f=bu then ∃ args' f' cap,args=.func (.func f') #[] (List.toArray cap)::args'∧gJ P f'=true∧Calls P f' (args'++cap).toArray w fun e w'=>∃ v k,e=.returned v∧φ v k∧Holds k w'∧Fr w.heap.size h k w w'
 else if bu<f then ∀ t c,c<8→f=jo t c→zL P t c args→∃ v k w',lV P t c args w v w'∧φ v k∧Holds k w'∧Fr w.heap.size h k w w'
 else Calls P f args.toArray w fun e w'=>∃ v k,e=.returned v∧φ v k∧Holds k w'∧Fr w.heap.size h k w w':=by
 intro f args h φ w hs hH
 unfold aB at hs
 by_cases hf:f=bu
 · rw[if_pos hf] at hs⊢
   obtain⟨args',f',cap,h1,h2,_,h4⟩:=hs
   exact⟨args',f',cap,h1,h2,Ap cs _ _ _ _ w h4 hH⟩
 · rw[if_neg hf] at hs⊢
   by_cases hd:bu<f
   · rw[if_pos hd] at hs⊢
     exact fun t c hc he hp=>I8 hs hH hc he hp
   · rw[if_neg hd] at hs⊢
     exact Ap cs _ _ _ _ w hs hH
theorem sD {P:Program} {f:FuncId} {args:Array Value} {w:World} {v:Value} {h:Hp} {φ:Value→Hp→Prop} (hc:Calls P f args w fun e w'=>e=.returned v∧Below w.heap.size w w') (hφ:φ v h) (hH:Holds h w):
 Calls P f args w fun e w'=>∃ v k,e=.returned v∧φ v k∧Holds k w'∧Fr w.heap.size h k w w':=hc.mono fun _ _ ⟨he,hb⟩=>⟨v,h,he,hφ,hH.below hb,Fr.of_below hb⟩
theorem Es {P:Program} {f:FuncId} {args:Array Value} {w:World} {v:Value} {h:Hp} {φ:Value→Hp→Prop} (hc:Calls P f args w fun e w'=>e=.returned v∧w=w') (hφ:φ v h) (hH:Holds h w):
 Calls P f args w fun e w'=>∃ v k,e=.returned v∧φ v k∧Holds k w'∧Fr w.heap.size h k w w':=hc.mono fun _ _ ⟨he,hb⟩=>⟨v,h,he,hφ,hb▸hH,hb▸Fr.refl _ _ _⟩
end Go.Proofs.YtgpanefhaiohnaaGreatDoor
namespace Go.Proofs.YtgpanefhaiohnaaGreatDoor
open Go.RowKit
def ig:Nat→Ctx→Prop:=fun _ _=>False
def eX:Nat→Ctx→Nat:=fun _ _=>0
theorem dD {P:Program} {f:FuncId} {fn:Func} (hf:P.funcs[f]? = some fn) {nw:iy} {A:Nat→dL} {fm:Fm} (hfm:df nw P A fn=fm) {ps:List PE} {n:Cnt} (hp:aX P .zero fn.params.toList=some (ps,n))
 (cts:List (Ct P)) (post:Value→Hp→Prop) (inv:Nat→Ctx→Prop) (meas:Nat→Ctx→Nat) (C:Ctx) (hC:Has C n) (ho:dZ C.v) (h:fm.says ⟨aB cts,post,inv,meas⟩ C) (w:World) (hH:Holds C.h w) {args:Array Value} (ha:args.toList=ps.map (PE.den C aP)):
 Calls P f args w fun e w'=>∃ v k,e=.returned v∧post v k∧Holds k w'∧Fr w.heap.size C.h k w w':=
 Ko hf nw A (E:=⟨aB cts,post,inv,meas⟩) (wP cts) hfm hp C hC ho h w hH ha
theorem J9 {P:Program} {f:FuncId} {fn:Func} (hf:P.funcs[f]? = some fn) {nw:iy} {A:Nat→dL} {fm:Fm} {ps:List PE} {n:Cnt} (hfm:qU nw P A fn ps n=fm)
 (cts:List (Ct P)) (post:Value→Hp→Prop) (inv:Nat→Ctx→Prop) (meas:Nat→Ctx→Nat) (C:Ctx) (hC:Has C n) (ho:dZ C.v) (h:fm.says ⟨aB cts,post,inv,meas⟩ C) (w:World) (hH:Holds C.h w) {args:Array Value} (ha:args.toList=ps.map (PE.den C aP)):
 Calls P f args w fun e w'=>∃ v k,e=.returned v∧post v k∧Holds k w'∧Fr w.heap.size C.h k w w':=
 vZ hf nw A (E:=⟨aB cts,post,inv,meas⟩) (wP cts) hfm C hC ho h w hH ha
theorem xw {p:Bool} {a b:Prop}:((p=true→a)∧(p=false→b))=(if p=true then a else b):=by
 apply propext;cases p<;>simp
section
variable (E:Env) (C:Ctx)
theorem aZ:Fm.tt.says E C=True:=rfl
theorem aY:Fm.ff.says E C=False:=rfl
theorem vM (g c:BE) (k:Fm):(Fm.need g c k).says E C=((if g.den C=true then c.den C=true else True)∧k.says E C):=by
 show ((g.den C=true→c.den C=true)∧k.says E C)=_
 congr 1
 apply propext;cases g.den C<;>simp
theorem Ag (b:BE) (t e:Fm):(Fm.ite b t e).says E C=if b.den C=true then t.says E C else e.says E C:=xw
theorem vJ (g:BE) (m:Bool) (f:FuncId) (args:List PE) (r:VE) (d:Cnt) (k:Fm):(Fm.call g m f args r d k).says E C =
 if g.den C=true then E.spec f (args.map (PE.den C aP)) C.h fun v h=>(m=true→dm C.h h)∧iM d fun x=>v=r.den (C.push x) aP∧k.says E ((C.push x).heap h) else k.says E (C.push (Inc.blank d)):=xw
theorem rC (g:BE) (ks:List (BE×AE×Nat)) (f:FuncId) (args:List PE) (r:VE) (d:Cnt) (k:Fm):(Fm.callK g ks f args r d k).says E C =
 if g.den C=true then E.spec f (args.map (PE.den C aP)) C.h fun v h=>(∀ x∈ks,x.1.den C=true→hread h (x.2.1.den C) x.2.2=hread C.h (x.2.1.den C) x.2.2)∧iM d fun x=>v=r.den (C.push x) aP∧k.says E ((C.push x).heap h) else k.says E (C.push (Inc.blank d)):=xw
theorem vK (g:BE) (a:AE) (n:Nat) (r:List CE) (d:Cnt) (k:Fm):(Fm.load g a n r d k).says E C =
 if g.den C=true then iM d fun x=>hread C.h (a.den C) n=some (r.map (CE.den (C.push x) aP))∧k.says E (C.push x) else k.says E (C.push (Inc.blank d)):=xw
theorem Ah (a:AE) (cs:List CE) (k:Fm):(Fm.store a cs k).says E C=∃ h,jk C.h (a.den C) (cs.map (CE.den C aP))=some h∧k.says E (C.heap h):=rfl
theorem FN (cs:List CE) (ty:TypeId) (len:Nat) (k:Fm):(Fm.mk cs ty len k).says E C=∀ b,C.h b=none→k.says E ((C.push ⟨[],[],[],[],[⟨some (b,0),len,len⟩],[]⟩).heap (C.h.set b ⟨cs.map (CE.den C aP),ty⟩)):=rfl
theorem Jy (n:IE) (z:CE) (ty:TypeId) (k:Fm):(Fm.Ye n z ty k).says E C=(0≤n.den C∧n.den C≤16777216∧∀ b,C.h b=none→k.says E ((C.push ⟨[],[],[],[],[⟨some (b,0),(n.den C).toNat,(n.den C).toNat⟩],[]⟩).heap (C.h.set b ⟨List.replicate (n.den C).toNat (z.den C aP),ty⟩))):=rfl
theorem Jz (cs:List CE) (ty:TypeId) (k:Fm):(Fm.new cs ty k).says E C=∀ b,C.h b=none→k.says E ((C.push ⟨[],[],[],[],[],[some (b,0)]⟩).heap (C.h.set b ⟨cs.map (CE.den C aP),ty⟩)):=rfl
theorem JA (l:LE) (k:Fm):(Fm.str l k).says E C=∃ bs,BytesAt C.h (l.den C) bs∧k.says E (C.push ⟨[],[],[bs],[],[],[]⟩):=rfl
theorem aj (r:VE):(Fm.ret r).says E C=E.post (r.den C aP) C.h:=rfl
theorem says_again (o:Nat) (n0 n1:Cnt) (g:dw):(Fm.again o n0 n1 g).says E C=(E.inv o ((C.cut n0).push (g.den C)).bare∧E.meas o ((C.cut n0).push (g.den C)).bare<C.m o):=rfl
theorem fG (s y:LE) (sz bytes:Nat) (ty:TypeId) (k:Fm):(Fm.app s y sz bytes ty k).says E C=∃ xs ys,bJ C.h (s.den C) xs ty sz∧XN C.h (y.den C) ys sz∧dZ ys∧(s.den C).n+(y.den C).n≤maxLen∧((s.den C).n+(y.den C).n)*bytes≤140737488355328∧
 ∀ s' h,bJ h s' (xs++ys) ty sz→s'.n=(s.den C).n+(y.den C).n→(∀ x,s'.a=some x→(∃ z,(s.den C).a=some z∧z.1=x.1)∨C.h x.1=none)→(∀ b o,(∀ x,(s.den C).a=some x→x.1≠b)→C.h b=some o→h b=some o)→k.says E ((C.push ⟨[],[],[],[],[s'],[]⟩).heap h):=rfl
end
def Then (E:Env) (k:Fm) (C:Ctx):Prop:=k.says E C
theorem ae (E:Env) (k:Fm) (C:Ctx):Then E k C=k.says E C:=rfl
section
variable (E:Env) (C:Ctx)
theorem ag (g c:BE) (k:Fm):(Fm.need g c k).says E C=((if g.den C=true then c.den C=true else True)∧Then E k C):=vM E C g c k
theorem ai (b:BE) (t e:Fm):(Fm.ite b t e).says E C=if b.den C=true then Then E t C else Then E e C:=Ag E C b t e
theorem ak (g:BE) (m:Bool) (f:FuncId) (args:List PE) (r:VE) (d:Cnt) (k:Fm):(Fm.call g m f args r d k).says E C =
 if g.den C=true then E.spec f (args.map (PE.den C aP)) C.h fun v h=>(m=true→dm C.h h)∧iM d fun x=>v=r.den (C.push x) aP∧Then E k ((C.push x).heap h) else Then E k (C.push (Inc.blank d)):=vJ E C g m f args r d k
theorem aN (g:BE) (ks:List (BE×AE×Nat)) (f:FuncId) (args:List PE) (r:VE) (d:Cnt) (k:Fm):(Fm.callK g ks f args r d k).says E C =
 if g.den C=true then E.spec f (args.map (PE.den C aP)) C.h fun v h=>(∀ x∈ks,x.1.den C=true→hread h (x.2.1.den C) x.2.2=hread C.h (x.2.1.den C) x.2.2)∧iM d fun x=>v=r.den (C.push x) aP∧Then E k ((C.push x).heap h) else Then E k (C.push (Inc.blank d)):=rC E C g ks f args r d k
theorem au (g:BE) (a:AE) (n:Nat) (r:List CE) (d:Cnt) (k:Fm):(Fm.load g a n r d k).says E C =
 if g.den C=true then iM d fun x=>hread C.h (a.den C) n=some (r.map (CE.den (C.push x) aP))∧Then E k (C.push x) else Then E k (C.push (Inc.blank d)):=vK E C g a n r d k
theorem aC (a:AE) (cs:List CE) (k:Fm):(Fm.store a cs k).says E C=∃ h,jk C.h (a.den C) (cs.map (CE.den C aP))=some h∧Then E k (C.heap h):=rfl
theorem di (cs:List CE) (ty:TypeId) (len:Nat) (k:Fm):(Fm.mk cs ty len k).says E C=∀ b,C.h b=none→Then E k ((C.push ⟨[],[],[],[],[⟨some (b,0),len,len⟩],[]⟩).heap (C.h.set b ⟨cs.map (CE.den C aP),ty⟩)):=rfl
theorem pq (n:IE) (z:CE) (ty:TypeId) (k:Fm):(Fm.Ye n z ty k).says E C=(0≤n.den C∧n.den C≤16777216∧∀ b,C.h b=none→Then E k ((C.push ⟨[],[],[],[],[⟨some (b,0),(n.den C).toNat,(n.den C).toNat⟩],[]⟩).heap (C.h.set b ⟨List.replicate (n.den C).toNat (z.den C aP),ty⟩))):=rfl
theorem jZ (cs:List CE) (ty:TypeId) (k:Fm):(Fm.new cs ty k).says E C=∀ b,C.h b=none→Then E k ((C.push ⟨[],[],[],[],[],[some (b,0)]⟩).heap (C.h.set b ⟨cs.map (CE.den C aP),ty⟩)):=rfl
theorem nY (l:LE) (k:Fm):(Fm.str l k).says E C=∃ bs,BytesAt C.h (l.den C) bs∧Then E k (C.push ⟨[],[],[bs],[],[],[]⟩):=rfl
end
theorem aQ {E:Env} {o:Nat} {g:dw} {k:Fm} {C:Ctx} (h1:E.inv o (C.push (g.den C)).bare)
 (h2:∀ i b s v l p h M,E.inv o ⟨i,b,s,v,l,p,h,dY⟩→M o=E.meas o ⟨i,b,s,v,l,p,h,dY⟩→k.says E ⟨i,b,s,v,l,p,h,M⟩):(Fm.loop o g k).says E C:=by
 refine⟨h1,(xP _ _).2 fun x _ _ h hi=>?_⟩
 exact h2 _ _ _ _ _ _ _ _ hi (by simp[Ctx.bare,Ctx.push,Ctx.heap])
theorem aU (x:bg) (b o n c:Nat):(Value.slice (some ⟨b,o,none⟩) n c=x.val)=(x=⟨some (b,o),n,c⟩):=by
 apply propext
 cases x with
 | mk a m d=>
   cases a with
   | none=>simp[bg.val]
   | some q=>cases q;simp[bg.val];constructor<;>(rintro⟨⟨rfl,rfl⟩,rfl,rfl⟩;simp)
theorem aT (x:bg) (n c:Nat):(Value.slice none n c=x.val)=(x=⟨none,n,c⟩):=by
 apply propext
 cases x with
 | mk a m d=>
   cases a with
   | none=>simp[bg.val];constructor<;>(rintro⟨rfl,rfl⟩;simp)
   | some q=>simp[bg.val]
theorem aV (x y:bg):(x.val=y.val)=(y=x):=by
 cases x with
 | mk a n c=>
   cases a with
   | none=>exact aT y n c
   | some q=>exact aU y q.1 q.2 n c
theorem bF (p:Option (Nat×Nat)) (b o:Nat):(Value.pointer (some ⟨b,o,none⟩)=Value.pointer (p.map fun x=>⟨x.1,x.2,none⟩))=(p=some (b,o)):=by
 apply propext
 cases p with
 | none=>simp
 | some q=>cases q;simp;constructor<;>(rintro⟨rfl,rfl⟩;simp)
theorem bD (p:Option (Nat×Nat)):(Value.pointer none=Value.pointer (p.map fun x=>(⟨x.1,x.2,none⟩:Addr)))=(p=none):=by
 apply propext
 cases p<;>simp
theorem aF (h:Hp):dm LP h=True:=eq_true fun _ _ h=>by cases h
theorem aO (h:Hp):dm h h=True:=eq_true fun _ _ h=>h
theorem dF {h:Hp} {b:Nat} (hb:h b=none) (o:HO):dm h (h.set b o):=fun k x hk=>by
 simp only[Hp.set]
 rw[if_neg (fun e=>by rw[e,hb] at hk;cases hk)]
 exact hk
theorem ax (h:Hp) (b:Nat) (o:HO):(h.set b o) b=some o:=by simp[Hp.set]
theorem bi (h:Hp) {b k:Nat} (hk:k≠b) (o:HO):(h.set b o) k=h k:=by simp[Hp.set,hk]
theorem aH (h:Hp) (b:Nat) (o:HO) (off n:Nat):hread (h.set b o) (some (b,off)) n=if off+n≤o.cs.length then some ((o.cs.drop off).take n) else none:=by
 unfold hread;simp only[ax]
theorem dN {h:Hp} {b:Nat} {o:HO} (hb:h b=some o) (off n:Nat):hread h (some (b,off)) n=if off+n≤o.cs.length then some ((o.cs.drop off).take n) else none:=by
 unfold hread;simp only[hb]
theorem aS (h:Hp) (b:Nat) (o o':HO):(h.set b o).set b o'=h.set b o':=by
 funext k;simp only[Hp.set];split<;>rfl
theorem set_comm (h:Hp) {b c:Nat} (hc:b≠c) (o o':HO):(h.set b o).set c o'=(h.set c o').set b o:=by
 funext k;simp only[Hp.set];split<;>split<;>first | rfl | omega
theorem set_self {h:Hp} {b:Nat} {o:HO} (hb:h b=some o):h=h.set b o:=by
 funext k;simp only[Hp.set];split
 · rename_i e;rw[e,hb]
 · rfl
theorem aA (h:Hp) (b:Nat) (o:HO) (off:Nat) (cs:List Value):jk (h.set b o) (some (b,off)) cs=if off+cs.length≤o.cs.length∧o.ty<1000000 then some (h.set b ⟨o.cs.take off++cs++o.cs.drop (off+cs.length),o.ty⟩) else none:=by
 unfold jk;simp only[ax,aS]
theorem fA {P:Program} {f:FuncId} {args:Array Value} {w:World} {h:Hp} {φ:Value→Hp→Prop} {B:Nat} (hc:Calls P f args w fun e w'=>∃ v k,e=.returned v∧(∃ k',dm k' k∧φ v k')∧Holds k w'∧Fr B h k w w'):
 Calls P f args w fun e w'=>∃ v k,e=.returned v∧φ v k∧Holds k w'∧Fr B h k w w':=by
 refine hc.mono ?_
 rintro e w' ⟨v,k,rfl,⟨k',hl,hφ⟩,hH,hF⟩
 refine⟨v,k',rfl,hφ,fun b o hb=>hH b o (hl b o hb),⟨hF.os,hF.tape,hF.output,hF.size,hF.block,fun c hc hn=>?_,fun c hc hn o ho=>hF.un c hc hn o (hl c o ho)⟩⟩
 cases hq:k' c with
 | none=>rfl
 | some o=>have:=hl c o hq;rw[hF.ghost c hc hn] at this;cases this
theorem aI (b:Nat):LP b=none:=rfl
theorem af:dZ []:=fun _ h=>by cases h
def Fm.k:Fm→Fm
 | .need _ _ k=>k
 | .call _ _ _ _ _ _ k=>k
 | .load _ _ _ _ _ k=>k
 | .store _ _ k=>k
 | .mk _ _ _ k=>k
 | .loop _ _ k=>k
 | .app _ _ _ _ _ k=>k
 | .aps _ _ _ k=>k
 | .str _ k=>k
 | .callK _ _ _ _ _ _ k=>k
 | .new _ _ k=>k
 | .Ye _ _ _ k=>k
 | .ite _ t _=>t
 | f=>f
def Fm.e:Fm→Fm
 | .ite _ _ e=>e
 | f=>f
end Go.Proofs.YtgpanefhaiohnaaGreatDoor
namespace Go.Proofs.YtgpanefhaiohnaaGreatDoor
open Go.RowKit
def bZ (l:List (List UInt8)):List Value:=l.map fun s=>.string (B s)
def dQ (l:List Int):List Value:=l.map fun n=>.int .i64 n
def eP (l:List (Int×Int×Int)):List Value:=l.flatMap fun a=>[.int .i64 a.1,.int .i64 a.2.2,.int .i64 a.2.1]
theorem jQ (l:List (List UInt8)):(bZ l).length=l.length:=by simp[bZ]
theorem zU (l:List Int):(dQ l).length=l.length:=by simp[dQ]
theorem lh (a b:List (List UInt8)):bZ (a++b)=bZ a++bZ b:=by simp[bZ]
theorem lg (a b:List Int):dQ (a++b)=dQ a++dQ b:=by simp[dQ]
theorem mX (a b:List (Int×Int×Int)):eP (a++b)=eP a++eP b:=by simp[eP]
theorem gX (l:List (List UInt8)):dZ (bZ l):=fun u hu=>by
 obtain⟨s,_,rfl⟩:=List.mem_map.1 hu;rfl
theorem kK (l:List Int):dZ (dQ l):=fun u hu=>by
 obtain⟨s,_,rfl⟩:=List.mem_map.1 hu;rfl
theorem jd (l:List (Int×Int×Int)):dZ (eP l):=fun u hu=>by
 obtain⟨s,_,hs⟩:=List.mem_flatMap.1 hu
 simp at hs
 rcases hs with rfl | rfl | rfl<;>rfl
structure Row (h:Hp) (s:bg) (xs:List Value) (n sz:Nat):Prop where
 rd:XN h s xs sz
 cnt:s.n=n
 len:xs.length=n*sz
theorem pW {h:Hp} {x:Option (Nat×Nat)} {n:Nat} {cs:List Value} (hr:hread h x n=some cs) {k m:Nat} (hk:k+m≤n):hread h (x.map fun z=>(z.1,z.2+k)) m=some ((cs.drop k).take m):=by
 unfold hread at hr
 split at hr
 · rename_i z
   split at hr
   · rename_i o ho
     split at hr
     · rename_i hl
       cases hr
       unfold hread
       simp only[Option.map_some,ho]
       rw[if_pos (by omega)]
       congr 1
       rw[List.drop_take,List.drop_drop,List.take_take,Nat.min_eq_left (by omega)]
     · cases hr
   · cases hr
 · cases hr
theorem Row.at {h:Hp} {s:bg} {xs:List Value} {n sz:Nat} (R:Row h s xs n sz) {k m:Nat} (hk:k+m≤n*sz) (hm:0<m):hread h (s.a.map fun z=>(z.1,z.2+k)) m=some ((xs.drop k).take m):=by
 rcases R.rd with ⟨h1,h2⟩ | ⟨h1,h2⟩
 · have:=R.cnt;rw[← this,h1] at hk;omega
 · exact pW h2 (by rw[R.cnt];exact hk)
theorem Row.le {h k:Hp} {s:bg} {xs:List Value} {n sz:Nat} (R:Row h s xs n sz) (hl:dm h k):Row k s xs n sz:=by
 refine⟨?_,R.cnt,R.len⟩
 rcases R.rd with h1 | ⟨h1,h2⟩
 · exact .inl h1
 · refine .inr ⟨h1,?_⟩
   unfold hread at h2⊢
   split at h2
   · rename_i z hz
     split at h2
     · rename_i o ho
       simp only[hl _ _ ho]
       exact h2
     · cases h2
   · cases h2
theorem Row.keep {h k:Hp} {s:bg} {xs:List Value} {n sz:Nat} (R:Row h s xs n sz) (hl:∀ z o,s.a=some z→h z.1=some o→k z.1=some o):Row k s xs n sz:=by
 refine⟨?_,R.cnt,R.len⟩
 rcases R.rd with h1 | ⟨h1,h2⟩
 · exact .inl h1
 · refine .inr ⟨h1,?_⟩
   unfold hread at h2⊢
   split at h2
   · rename_i z hz
     split at h2
     · rename_i o ho
       simp only[hl _ _ hz ho]
       exact h2
     · cases h2
   · cases h2
theorem Row.nil (h:Hp) {s:bg} (hs:s.n=0) (sz:Nat):Row h s [] 0 sz:=⟨.inl ⟨hs,rfl⟩,hs,by simp⟩
theorem Row.eu {h:Hp} {s:bg} {xs:List Value} {T:TypeId} {n sz:Nat} (O:bJ h s xs T sz) (hn:s.n=n):Row h s xs n sz:=by
 rcases O with ⟨rfl,rfl⟩ | ⟨b,o,h1,h2,h3,h4,h5,h6,rfl⟩
 · subst hn
   exact⟨.inl ⟨rfl,rfl⟩,rfl,by simp⟩
 · have h7:s.n*sz≤s.c*sz:=Nat.mul_le_mul_right _ h5
   refine⟨.inr ⟨by rw[h1];simp,?_⟩,hn,?_⟩
   · rw[h1,dN h2,if_pos (by omega),List.drop_zero]
   · rw[List.length_take,h4,← hn];omega
theorem Row.sub {h:Hp} {s:bg} {xs:List Value} {n sz:Nat} (R:Row h s xs n sz) (hc:s.n≤s.c) {lo hi:Nat} (h1:lo≤hi) (h2:hi≤n) (d:Nat):
 Row h ⟨if s.c=lo then s.a else s.a.map fun x=>(x.1,x.2+lo*sz),hi - lo,d⟩ ((xs.drop (lo*sz)).take ((hi - lo)*sz)) (hi - lo) sz:=by
 have hm:hi*sz≤n*sz:=Nat.mul_le_mul_right _ h2
 have hm2:(hi - lo)*sz+lo*sz=hi*sz:=by rw[← Nat.add_mul];congr 1;omega
 by_cases h0:(hi - lo)*sz=0
 · refine⟨?_,rfl,by rw[h0];simp⟩
   rcases Nat.mul_eq_zero.1 h0 with h3 | h3
   · exact .inl ⟨h3,by rw[h0];simp⟩
   · by_cases h4:hi - lo=0
     · exact .inl ⟨h4,by rw[h0];simp⟩
     · rcases R.rd with ⟨h5,_⟩ | ⟨h5,h6⟩
       · have:=R.cnt;omega
       · refine .inr ⟨?_,?_⟩
         · show (if s.c=lo then s.a else s.a.map _)≠none
           split
           · exact h5
           · cases hs:s.a with
             | none=>exact absurd hs h5
             | some z=>simp
         · show hread h (if s.c=lo then s.a else s.a.map _) ((hi - lo)*sz)=_
           have:=pW h6 (k:=0) (m:=0) (by omega)
           have hq:=pW h6 (k:=lo*sz) (m:=(hi - lo)*sz) (by rw[R.cnt];omega)
           split
           · rw[h0] at hq⊢
             have e:(s.a.map fun z=>(z.1,z.2+0))=s.a:=by cases s.a<;>rfl
             rw[e] at this
             simpa using this
           · exact hq
 · refine⟨.inr ?_,rfl,by rw[List.length_take,List.length_drop,R.len];omega⟩
   have hne:hi - lo≠0:=fun e=>h0 (by rw[e];simp)
   rcases R.rd with ⟨h5,_⟩ | ⟨h5,h6⟩
   · have:=R.cnt;omega
   · have hlo:s.c≠lo:=by have:=R.cnt;omega
     have hq:=pW h6 (k:=lo*sz) (m:=(hi - lo)*sz) (by rw[R.cnt];omega)
     refine⟨?_,?_⟩
     · show (if s.c=lo then s.a else s.a.map _)≠none
       rw[if_neg hlo]
       cases hs:s.a with
       | none=>exact absurd hs h5
       | some z=>simp
     · show hread h (if s.c=lo then s.a else s.a.map _) ((hi - lo)*sz)=_
       rw[if_neg hlo]
       exact hq
theorem Row.str {h:Hp} {s:bg} {l:List (List UInt8)} (R:Row h s (bZ l) l.length 1) {k:Nat} {x:List UInt8} (hx:l[k]? = some x):hread h (s.a.map fun z=>(z.1,z.2+k*1+0)) 1=some [.string (B x)]:=by
 have hk:=(List.getElem?_eq_some_iff.1 hx).1
 have:=R.at (k:=k) (m:=1) (by omega) (by decide)
 rw[show (fun z:Nat×Nat=>(z.1,z.2+k*1+0))=fun z=>(z.1,z.2+k) by funext z;simp,this]
 congr 1
 unfold bZ
 rw[← List.map_drop,← List.map_take,List.drop_eq_getElem_cons hk,(List.getElem?_eq_some_iff.1 hx).2]
 rfl
theorem Row.int {h:Hp} {s:bg} {l:List Int} (R:Row h s (dQ l) l.length 1) {k:Nat} {x:Int} (hx:l[k]? = some x):hread h (s.a.map fun z=>(z.1,z.2+k*1+0)) 1=some [.int .i64 x]:=by
 have hk:=(List.getElem?_eq_some_iff.1 hx).1
 have:=R.at (k:=k) (m:=1) (by omega) (by decide)
 rw[show (fun z:Nat×Nat=>(z.1,z.2+k*1+0))=fun z=>(z.1,z.2+k) by funext z;simp,this]
 congr 1
 unfold dQ
 rw[← List.map_drop,← List.map_take,List.drop_eq_getElem_cons hk,(List.getElem?_eq_some_iff.1 hx).2]
 rfl
theorem QO (l:List (Int×Int×Int)):∀ k,(eP l).drop (k*3)=eP (l.drop k):=by
 induction l with
 | nil=>intro k;simp[eP]
 | cons a l ih=>
   intro k
   cases k with
   | zero=>simp
   | succ k=>
     have e:(k+1)*3=k*3+3:=by omega
     rw[e,List.drop_succ_cons,← ih k]
     simp[eP,← List.drop_drop,Nat.add_comm]
theorem Row.act {h:Hp} {s:bg} {l:List (Int×Int×Int)} (R:Row h s (eP l) l.length 3) {k:Nat} {x:Int×Int×Int} (hx:l[k]? = some x):hread h (s.a.map fun z=>(z.1,z.2+k*3+0)) 3=some [.int .i64 x.1,.int .i64 x.2.2,.int .i64 x.2.1]:=by
 have hk:=(List.getElem?_eq_some_iff.1 hx).1
 have:=R.at (k:=k*3) (m:=3) (by omega) (by decide)
 rw[show (fun z:Nat×Nat=>(z.1,z.2+k*3+0))=fun z=>(z.1,z.2+k*3) by funext z;simp,this]
 congr 1
 rw[QO,List.drop_eq_getElem_cons hk,(List.getElem?_eq_some_iff.1 hx).2]
 simp[eP]
end Go.Proofs.YtgpanefhaiohnaaGreatDoor
namespace Go.Proofs.YtgpanefhaiohnaaGreatDoor
open Go.RowKit
structure Ss where
 i:bg
 d:bg
 e:bg
 a:bg
 n:bg
 l:bg
def iP:bg:=⟨none,0,0⟩
def bz (q:Ss) (x:gu):List Value:=[q.i.val,q.d.val,.int .i64 x.fuel,.int .i64 x.heap,.int .i64 x.stack,.int .i64 x.every,.int .i64 x.keep,.int .i64 x.hot,q.e.val,q.a.val,q.n.val,.string (B x.src),q.l.val]
abbrev ST:TypeId:=32
abbrev JQ:TypeId:=53
abbrev NT:TypeId:=9
abbrev I6:TypeId:=2
abbrev IT':TypeId:=3
structure FX (h:Hp) (q:Ss) (x:gu):Prop where
 i:Row h q.i (dQ x.ins) x.ins.length 1
 d:Row h q.d (dQ x.draws) x.draws.length 1
 e:Row h q.e (dQ x.evict) x.evict.length 1
 a:Row h q.a (eP x.acts) x.acts.length 3
 n:Row h q.n (bZ x.names) x.names.length 1
 l:Row h q.l (bZ x.lines) x.lines.length 1
structure Bi (h:Hp) (q:Ss) (x:gu):Prop where
 i:bJ h q.i (dQ x.ins) I6 1
 i':q.i.n=x.ins.length
 d:bJ h q.d (dQ x.draws) I6 1
 d':q.d.n=x.draws.length
 e:bJ h q.e (dQ x.evict) IT' 1
 e':q.e.n=x.evict.length
 a:bJ h q.a (eP x.acts) JQ 3
 a':q.a.n=x.acts.length
 n:bJ h q.n (bZ x.names) NT 1
 n':q.n.n=x.names.length
 l:q.l=iP
 l':x.lines=[]
theorem jG {h k:Hp} {s:bg} {xs:List Value} {ty:TypeId} {sz:Nat} (ho:bJ h s xs ty sz) (hl:dm h k):bJ k s xs ty sz:=by
 rcases ho with h1 | ⟨b,o,h1,h2,h3⟩
 · exact .inl h1
 · exact .inr ⟨b,o,h1,hl _ _ h2,h3⟩
theorem cZ {h k:Hp} {s:bg} {xs:List Value} {ty:TypeId} {sz:Nat} (ho:bJ h s xs ty sz) (hl:∀ z cs,s.a=some z→h z.1=some ⟨cs,ty⟩→k z.1=some ⟨cs,ty⟩):bJ k s xs ty sz:=by
 rcases ho with h1 | ⟨b,⟨cs,t⟩,h1,h2,h3,h4⟩
 · exact .inl h1
 · simp only at h3;subst h3
   exact .inr ⟨b,_,h1,hl _ _ h1 h2,rfl,h4⟩
theorem oV {h:Hp} {s:bg} {xs:List Value} {ty:TypeId} {sz:Nat} (ho:bJ h s xs ty sz) {z:Nat×Nat} (hz:s.a=some z):∃ cs,h z.1=some ⟨cs,ty⟩:=by
 rcases ho with ⟨h1,_⟩ | ⟨b,⟨cs,t⟩,h1,h2,h3,h4⟩
 · rw[h1] at hz;cases hz
 · simp only at h3;subst h3
   rw[h1] at hz;cases hz
   exact⟨cs,h2⟩
theorem own_ne {h:Hp} {s:bg} {xs cs:List Value} {ty T:TypeId} {sz b:Nat} (ho:bJ h s xs ty sz) (hb:h b=some ⟨cs,T⟩) (hT:ty≠T):∀ z,s.a=some z→z.1≠b:=fun z hz e=>by
 obtain⟨c,h1⟩:=oV ho hz
 rw[e,hb] at h1
 cases h1;exact hT rfl
theorem dW {h k:Hp} {s s0:bg} {xs xs0:List Value} {T T0:TypeId} {sz sz0:Nat} (O:bJ h s xs T sz) (O0:bJ h s0 xs0 T0 sz0) (hne:T≠T0) (hk:∀ b o,(∀ x,s0.a=some x→x.1≠b)→h b=some o→k b=some o):bJ k s xs T sz:=
 cZ O fun z cs hz hc=>hk _ _ (fun x hx e=>by
  obtain⟨c,h1⟩:=oV O0 hx
  rw[e,hc] at h1
  cases h1;exact hne rfl) hc
theorem Dv:NT≠ST:=by decide
theorem Gm:JQ≠ST:=by decide
theorem qG:I6≠ST:=by decide
theorem Iy:IT'≠ST:=by decide
theorem oN:NT≠JQ:=by decide
theorem TJ:I6≠JQ:=by decide
theorem Yb:IT'≠JQ:=by decide
theorem TL:I6≠NT:=by decide
theorem Yc:IT'≠NT:=by decide
theorem fF (h:Hp) (T:TypeId) (sz:Nat):bJ h iP [] T sz:=.inl ⟨rfl,rfl⟩
section
variable {h k:Hp} {q:Ss} {x:gu} {b:Nat} {cs:List Value}
theorem Bi.le (S:Bi h q x) (hl:dm h k):Bi k q x:=
 ⟨jG S.i hl,S.i',jG S.d hl,S.d',jG S.e hl,S.e',jG S.a hl,S.a',jG S.n hl,S.n',S.l,S.l'⟩
theorem Bi.but (S:Bi h q x) (hb:h b=some ⟨cs,ST⟩) (hk:∀ c o,c≠b→h c=some o→k c=some o):Bi k q x:=
 ⟨cZ S.i fun z _ hz hc=>hk _ _ (own_ne S.i hb qG z hz) hc,S.i',cZ S.d fun z _ hz hc=>hk _ _ (own_ne S.d hb qG z hz) hc,S.d',cZ S.e fun z _ hz hc=>hk _ _ (own_ne S.e hb Iy z hz) hc,S.e',
  cZ S.a fun z _ hz hc=>hk _ _ (own_ne S.a hb Gm z hz) hc,S.a',cZ S.n fun z _ hz hc=>hk _ _ (own_ne S.n hb Dv z hz) hc,S.n',S.l,S.l'⟩
theorem Bi.read (S:Bi h q x):FX h q x:=
 ⟨Row.eu S.i S.i',Row.eu S.d S.d',Row.eu S.e S.e',Row.eu S.a S.a',Row.eu S.n S.n',by rw[S.l,S.l'];exact Row.nil h rfl 1⟩
theorem FX.le (S:FX h q x) (hl:dm h k):FX k q x:=⟨S.i.le hl,S.d.le hl,S.e.le hl,S.a.le hl,S.n.le hl,S.l.le hl⟩
end
structure Apart (b:Nat) (q:Ss) (c:Nat):Prop where
 b:c≠b
 a:∀ z,q.a.a=some z→z.1≠c
 n:∀ z,q.n.a=some z→z.1≠c
structure Fit (h0 h:Hp) (b:Nat) (q:Ss):Prop where
 le:dm h0 h
 apart:∀ c,h0 c≠none→Apart b q c
def qy (h:Hp):Prop:=∃ m,h 0=some ⟨[.int .i64 m],ro⟩
theorem qy.le {h k:Hp} (M:qy h) (hl:dm h k):qy k:=by
 obtain⟨m,hm⟩:=M
 exact⟨m,hl _ _ hm⟩
end Go.Proofs.YtgpanefhaiohnaaGreatDoor
namespace Go.Proofs
open Go.Shelf
def Tryz.laysM171_ren:Go.Shelf.Ren:=⟨fun | 171=>24 | 243=>48 | 246=>66 | 283=>97 | 284=>98 | 285=>99 | 286=>100 | 129=>163 | 317=>162 | 318=>164 | 319=>165 | 320=>166 | 337=>222 | 338=>223 | n=>n,fun | 3=>3 | 9=>9 | 2=>2 | 4=>4 | 171=>160 | 0=>0 | 53=>86 | 37=>56 | 5=>5 | 173=>163 | 212=>237 | 51=>238 | 20=>20 | 213=>239 | 46=>235 | 232=>413 | 233=>414 | n=>n,fun | 17=>1 | 18=>4 | 19=>5 | n=>n⟩
theorem Tryz.laysM171:Go.Proofs.LaysM.n171 Tryz.prog Tryz.laysM171_ren:={
 mixed:=by kernel_rfl
 f129:=Tryz.func163.trans (congrArg some (by kernel_rfl))
 f171:=Tryz.func24.trans (congrArg some (by kernel_rfl))
 f243:=Tryz.func48.trans (congrArg some (by kernel_rfl))
 f246:=Tryz.func66.trans (congrArg some (by kernel_rfl))
 f283:=Tryz.func97.trans (congrArg some (by kernel_rfl))
 f284:=Tryz.func98.trans (congrArg some (by kernel_rfl))
 f285:=Tryz.func99.trans (congrArg some (by kernel_rfl))
 f286:=Tryz.func100.trans (congrArg some (by kernel_rfl))
 f317:=Tryz.func162.trans (congrArg some (by kernel_rfl))
 f318:=Tryz.func164.trans (congrArg some (by kernel_rfl))
 f319:=Tryz.func165.trans (congrArg some (by kernel_rfl))
 f320:=Tryz.func166.trans (congrArg some (by kernel_rfl))
 f337:=Tryz.func222.trans (congrArg some (by kernel_rfl))
 f338:=Tryz.func223.trans (congrArg some (by kernel_rfl))
 t0:=Tryz.underlying0
 a0:=Tryz.isAgg0
 z0:=Tryz.sizeOf0
 v0:=Tryz.zeroValue0
 t2:=Tryz.underlying2
 a2:=Tryz.isAgg2
 z2:=Tryz.sizeOf2
 v2:=Tryz.zeroValue2
 t3:=Tryz.underlying3
 a3:=Tryz.isAgg3
 z3:=Tryz.sizeOf3
 v3:=Tryz.zeroValue3
 t4:=Tryz.underlying4
 a4:=Tryz.isAgg4
 z4:=Tryz.sizeOf4
 v4:=Tryz.zeroValue4
 t5:=Tryz.underlying5
 a5:=Tryz.isAgg5
 z5:=Tryz.sizeOf5
 v5:=Tryz.zeroValue5
 t9:=Tryz.underlying9
 a9:=Tryz.isAgg9
 z9:=Tryz.sizeOf9
 v9:=Tryz.zeroValue9
 t20:=Tryz.underlying20
 a20:=Tryz.isAgg20
 z20:=Tryz.sizeOf20
 v20:=Tryz.zeroValue20
 t37:=Tryz.underlying56
 a37:=Tryz.isAgg56
 z37:=Tryz.sizeOf56
 v37:=Tryz.zeroValue56
 t46:=Tryz.underlying235
 a46:=Tryz.isAgg235
 z46:=Tryz.sizeOf235
 v46:=Tryz.zeroValue235
 t51:=Tryz.underlying238
 a51:=Tryz.isAgg238
 z51:=Tryz.sizeOf238
 v51:=Tryz.zeroValue238
 t53:=Tryz.underlying86
 a53:=Tryz.isAgg86
 z53:=Tryz.sizeOf86
 v53:=Tryz.zeroValue86
 t171:=Tryz.underlying160
 a171:=Tryz.isAgg160
 z171:=Tryz.sizeOf160
 v171:=Tryz.zeroValue160
 t173:=Tryz.underlying163
 a173:=Tryz.isAgg163
 z173:=Tryz.sizeOf163
 v173:=Tryz.zeroValue163
 t212:=Tryz.underlying237
 a212:=Tryz.isAgg237
 z212:=Tryz.sizeOf237
 v212:=Tryz.zeroValue237
 t213:=Tryz.underlying239
 a213:=Tryz.isAgg239
 z213:=Tryz.sizeOf239
 t232:=Tryz.underlying413
 a232:=Tryz.isAgg413
 z232:=Tryz.sizeOf413
 v232:=Tryz.zeroValue413
 t233:=Tryz.underlying414
 a233:=Tryz.isAgg414
 z233:=Tryz.sizeOf414
 v233:=Tryz.zeroValue414
 g17:=by kernel_rfl
 g18:=by kernel_rfl
 g19:=by kernel_rfl
 i0:=by kernel_rfl
 i2:=by kernel_rfl
 i3:=by kernel_rfl
 i4:=by kernel_rfl
 i5:=by kernel_rfl
 i9:=by kernel_rfl
 i20:=by kernel_rfl
 i37:=by kernel_rfl
 i46:=by kernel_rfl
 i51:=by kernel_rfl
 i53:=by kernel_rfl
 i171:=by kernel_rfl
 i173:=by kernel_rfl
 i212:=by kernel_rfl
 i232:=by kernel_rfl
 i233:=by kernel_rfl
 m17:=by kernel_rfl
 m18:=by kernel_rfl
 m19:=by kernel_rfl }
open Go.RowKit Go.Sort Go.Lib in
theorem Tryz.strconv_Itoa (n : Int) (h0 : -9223372036854775808 ≤ n) (h1 : n ≤ 9223372036854775807) (w : World) (htab : Lib.TabIs Tryz.prog w "internal/strconv.uint64pow10" .u64 Lib.pow10Tab) :
 Calls Tryz.prog 24 #[.int .i64 n] w fun e w'=>e=.returned (.string ⟨(Lib.itoa n).toArray⟩)∧∃ k os,w'=grow (w.drewN k) os:=Any.strconv_Itoa Tryz.laysM171 n h0 h1 w htab
def Tryz.lays144_ren:Go.Shelf.Ren:=⟨fun | 144=>45 | 143=>63 | 219=>96 | 217=>158 | 225=>159 | 224=>160 | 267=>161 | 266=>220 | 314=>221 | n=>n,fun | 9=>9 | 4=>4 | 3=>3 | 5=>5 | 46=>235 | 146=>315 | 51=>238 | n=>n,fun | 1=>0 | n=>n⟩
theorem Tryz.lays144:Go.Proofs.Lays.n144 Tryz.prog Tryz.lays144_ren:={
 mixed:=by kernel_rfl
 f143:=Tryz.func63.trans (congrArg some (by kernel_rfl))
 f144:=Tryz.func45.trans (congrArg some (by kernel_rfl))
 f217:=Tryz.func158.trans (congrArg some (by kernel_rfl))
 f219:=Tryz.func96.trans (congrArg some (by kernel_rfl))
 f224:=Tryz.func160.trans (congrArg some (by kernel_rfl))
 f225:=Tryz.func159.trans (congrArg some (by kernel_rfl))
 f266:=Tryz.func220.trans (congrArg some (by kernel_rfl))
 f267:=Tryz.func161.trans (congrArg some (by kernel_rfl))
 f314:=Tryz.func221.trans (congrArg some (by kernel_rfl))
 t3:=Tryz.underlying3
 a3:=Tryz.isAgg3
 z3:=Tryz.sizeOf3
 v3:=Tryz.zeroValue3
 t4:=Tryz.underlying4
 a4:=Tryz.isAgg4
 z4:=Tryz.sizeOf4
 v4:=Tryz.zeroValue4
 t5:=Tryz.underlying5
 a5:=Tryz.isAgg5
 z5:=Tryz.sizeOf5
 v5:=Tryz.zeroValue5
 t9:=Tryz.underlying9
 a9:=Tryz.isAgg9
 z9:=Tryz.sizeOf9
 v9:=Tryz.zeroValue9
 t46:=Tryz.underlying235
 a46:=Tryz.isAgg235
 z46:=Tryz.sizeOf235
 v46:=Tryz.zeroValue235
 t51:=Tryz.underlying238
 a51:=Tryz.isAgg238
 z51:=Tryz.sizeOf238
 v51:=Tryz.zeroValue238
 t146:=Tryz.underlying315
 a146:=Tryz.isAgg315
 z146:=Tryz.sizeOf315
 v146:=Tryz.zeroValue315
 g1:=by kernel_rfl }
open Go.RowKit Go.Lib in
theorem Tryz.strings_Contains (s sub:ByteArray) (m:Int) (w:World) (hs:s.size<4294967281) (hm:w.cell? ⟨0,0,none⟩=some (.int .i64 m)):
 Calls Tryz.prog 45 #[.string s,.string sub] w fun e w'=>e=.returned (.bool (Lib.contains s.data.toList sub.data.toList))∧w'=w:=Any.strings_Contains Tryz.lays144 s sub m w hs hm
def Tryz.lays100_ren:Go.Shelf.Ren:=⟨fun | 100=>46 | 207=>64 | n=>n,fun | 9=>9 | 4=>4 | 3=>3 | n=>n,fun | n=>n⟩
theorem Tryz.lays100:Go.Proofs.Lays.n100 Tryz.prog Tryz.lays100_ren:={
 mixed:=by kernel_rfl
 f100:=Tryz.func46.trans (congrArg some (by kernel_rfl))
 f207:=Tryz.func64.trans (congrArg some (by kernel_rfl))
 t3:=Tryz.underlying3
 a3:=Tryz.isAgg3
 z3:=Tryz.sizeOf3
 v3:=Tryz.zeroValue3
 t4:=Tryz.underlying4
 a4:=Tryz.isAgg4
 z4:=Tryz.sizeOf4
 v4:=Tryz.zeroValue4
 t9:=Tryz.underlying9
 a9:=Tryz.isAgg9
 z9:=Tryz.sizeOf9
 v9:=Tryz.zeroValue9 }
open Go.RowKit Go.Lib in
theorem Tryz.strings_HasSuffix (s p:ByteArray) (w:World) (hs:s.size≤9223372036854775807):
 Calls Tryz.prog 46 #[.string s,.string p] w fun e w'=>e=.returned (.bool (Lib.hasSuffix s.data.toList p.data.toList))∧w'=w:=Any.strings_HasSuffix Tryz.lays100 s p w hs
def Tryz.lays146_ren:Go.Shelf.Ren:=⟨fun | 146=>35 | 221=>59 | 268=>92 | 138=>93 | 143=>63 | 195=>154 | 197=>155 | 218=>156 | 219=>96 | 260=>219 | 217=>158 | 225=>159 | 224=>160 | 267=>161 | 266=>220 | 314=>221 | n=>n,fun | 9=>9 | 31=>30 | 3=>3 | 4=>4 | 0=>0 | 105=>231 | 21=>21 | 5=>5 | 46=>235 | 119=>409 | 139=>412 | 138=>411 | 146=>315 | 51=>238 | n=>n,fun | 1=>0 | 3=>2 | 4=>3 | n=>n⟩
theorem Tryz.lays146:Go.Proofs.Lays.n146 Tryz.prog Tryz.lays146_ren:={
 mixed:=by kernel_rfl
 f138:=Tryz.func93.trans (congrArg some (by kernel_rfl))
 f143:=Tryz.func63.trans (congrArg some (by kernel_rfl))
 f146:=Tryz.func35.trans (congrArg some (by kernel_rfl))
 f195:=Tryz.func154.trans (congrArg some (by kernel_rfl))
 f197:=Tryz.func155.trans (congrArg some (by kernel_rfl))
 f217:=Tryz.func158.trans (congrArg some (by kernel_rfl))
 f218:=Tryz.func156.trans (congrArg some (by kernel_rfl))
 f219:=Tryz.func96.trans (congrArg some (by kernel_rfl))
 f221:=Tryz.func59.trans (congrArg some (by kernel_rfl))
 f224:=Tryz.func160.trans (congrArg some (by kernel_rfl))
 f225:=Tryz.func159.trans (congrArg some (by kernel_rfl))
 f260:=Tryz.func219.trans (congrArg some (by kernel_rfl))
 f266:=Tryz.func220.trans (congrArg some (by kernel_rfl))
 f267:=Tryz.func161.trans (congrArg some (by kernel_rfl))
 f268:=Tryz.func92.trans (congrArg some (by kernel_rfl))
 f314:=Tryz.func221.trans (congrArg some (by kernel_rfl))
 t0:=Tryz.underlying0
 a0:=Tryz.isAgg0
 z0:=Tryz.sizeOf0
 v0:=Tryz.zeroValue0
 t3:=Tryz.underlying3
 a3:=Tryz.isAgg3
 z3:=Tryz.sizeOf3
 v3:=Tryz.zeroValue3
 t4:=Tryz.underlying4
 a4:=Tryz.isAgg4
 z4:=Tryz.sizeOf4
 v4:=Tryz.zeroValue4
 t5:=Tryz.underlying5
 a5:=Tryz.isAgg5
 z5:=Tryz.sizeOf5
 v5:=Tryz.zeroValue5
 t9:=Tryz.underlying9
 a9:=Tryz.isAgg9
 z9:=Tryz.sizeOf9
 v9:=Tryz.zeroValue9
 t21:=Tryz.underlying21
 a21:=Tryz.isAgg21
 z21:=Tryz.sizeOf21
 v21:=Tryz.zeroValue21
 t31:=Tryz.underlying30
 a31:=Tryz.isAgg30
 z31:=Tryz.sizeOf30
 v31:=Tryz.zeroValue30
 t46:=Tryz.underlying235
 a46:=Tryz.isAgg235
 z46:=Tryz.sizeOf235
 v46:=Tryz.zeroValue235
 t51:=Tryz.underlying238
 a51:=Tryz.isAgg238
 z51:=Tryz.sizeOf238
 v51:=Tryz.zeroValue238
 t105:=Tryz.underlying231
 a105:=Tryz.isAgg231
 z105:=Tryz.sizeOf231
 v105:=Tryz.zeroValue231
 t119:=Tryz.underlying409
 a119:=Tryz.isAgg409
 z119:=Tryz.sizeOf409
 t138:=Tryz.underlying411
 a138:=Tryz.isAgg411
 z138:=Tryz.sizeOf411
 v138:=Tryz.zeroValue411
 t139:=Tryz.underlying412
 a139:=Tryz.isAgg412
 z139:=Tryz.sizeOf412
 v139:=Tryz.zeroValue412
 t146:=Tryz.underlying315
 a146:=Tryz.isAgg315
 z146:=Tryz.sizeOf315
 v146:=Tryz.zeroValue315
 g1:=by kernel_rfl
 g3:=by kernel_rfl
 g4:=by kernel_rfl }
open Go.RowKit Go.Lib in
theorem Tryz.strings_Split (s sep:ByteArray) (m:Int) (w:World) (hs:s.size<4294967281) (hm:w.cell? ⟨0,0,none⟩=some (.int .i64 m)) (h1:1≤sep.size):
 Calls Tryz.prog 35 #[.string s,.string sep] w fun e w'=>
  e=.returned (.slice (some ⟨w.heap.size,0,none⟩) (Lib.countB s sep+1) (Lib.countB s sep+1))∧w'=w.alloc (.cells ((Lib.splitB sep 0 (Lib.countB s sep) s).map Value.string).toArray 9):=Any.strings_Split Tryz.lays146 (by kernel_rfl) s sep m w hs hm h1
end Go.Proofs
namespace Go.Proofs.YtgpanefhaiohnaaGreatDoor
open Go.RowKit
theorem Qm {P:Program} {f:FuncId} {args:Array Value} {w:World} {v:Nat→Value} {cs:List Value} {ty:TypeId} {h:Hp} {φ:Value→Hp→Prop}
 (hc:Calls P f args w fun e w'=>e=.returned (v w.heap.size)∧w'=w.alloc (.cells cs.toArray ty)) (hφ:∀ b,h b=none→φ (v b) (h.set b ⟨cs,ty⟩)) (hT:ty<1000000) (hH:Holds h w):
 Calls P f args w fun e w'=>∃ v k,e=.returned v∧φ v k∧Holds k w'∧Fr w.heap.size h k w w':=by
 have hnone:h w.heap.size=none:=by
  cases hq:h w.heap.size with
  | none=>rfl
  | some o=>have:=hH.lt (b:=w.heap.size) (by rw[hq];simp);omega
 refine hc.mono ?_
 rintro e w' ⟨rfl,rfl⟩
 have hbel:Below w.heap.size w (w.alloc (.cells cs.toArray ty)):=(Below.refl _ _).alloc (Nat.le_refl _) _
 refine⟨_,_,rfl,hφ _ hnone,?_,hbel.os,hbel.tape,hbel.output,hbel.size,fun k hk _=>hbel.block k hk,fun k hk hn=>?_,fun k hk hn o ho=>?_⟩
 · intro b y hy
   simp only[Hp.set] at hy
   by_cases he:b=w.heap.size
   · rw[if_pos he] at hy
     cases hy
     subst he
     refine .of ?_
     show (w.heap.push _)[w.heap.size]? = _
     simp
   · rw[if_neg he] at hy
     exact hH.below hbel b y hy
 · simp only[Hp.set]
   rw[if_neg (by omega)]
   exact hn
 · simp only[Hp.set] at ho
   rw[if_neg (by omega)] at ho
   exact hn o ho
theorem Ei {h:Hp} {w:World} (hH:Holds h w) {b:Nat} {cs:List Value} (hb:h b=some ⟨cs,ro⟩):∃ T fz,w.heap[b]? = some (.cells cs.toArray T fz):=by
 rcases hH _ _ hb with ⟨T,fz,hx,_⟩ | ⟨h1,_⟩
 · exact⟨T,fz,hx⟩
 · cases h1
theorem jM (c:UInt8):∀ l:List UInt8,(aW c l).length=l.count c+1
 | []=>rfl
 | x::l=>by
   rw[aW,List.count_cons]
   by_cases h:x=c
   · rw[if_pos h,List.length_cons,jM c l];simp[h]
   · rw[if_neg h]
     have ih:=jM c l
     cases hs:aW c l with
     | nil=>exact absurd hs (jf c l)
     | cons a t=>rw[hs] at ih;simp[h];simpa using ih
theorem Kv (c:UInt8) (l:List UInt8):Lib.countB (B l) (B [c])=l.count c:=by
 show Lib.count (B l).data.toList [c]=_
 rw[Lib.count_one]
 rfl
set_option maxHeartbeats 2000000 in
def xk:Ct Tryz.prog where
 f:=35
 spec:=fun args h φ=>∃ l c,args=[.string (B l),.string (B [c])]∧l.length≤200000∧qy h∧
  ∀ b,h b=none→φ (.slice (some ⟨b,0,none⟩) (aW c l).length (aW c l).length) (h.set b ⟨bZ (aW c l),NT⟩)
 ok:=by
  rintro args h φ w ⟨l,c,rfl,hl,⟨m,hm⟩,hφ⟩ hH
  obtain⟨T,fz,hx⟩:=Ei hH hm
  have hcell:w.cell? ⟨0,0,none⟩=some (.int .i64 m):=by rw[Lib.cell_of_heap hx];rfl
  have hc:=Tryz.strings_Split (B l) (B [c]) m w (by rw[dJ];omega) hcell (by rw[dJ];simp)
  rw[Kv,Nc c l _ (Nat.le_refl _),← jM] at hc
  refine Qm (v:=fun b=>.slice (some ⟨b,0,none⟩) (aW c l).length (aW c l).length) (cs:=bZ (aW c l)) (ty:=NT) ?_ hφ (by decide) hH
  have e:((aW c l).map B).map Value.string=bZ (aW c l):=by rw[List.map_map];rfl
  rw[e] at hc
  exact hc
theorem V7:∀ (k m:Nat) (t:List UInt8),m<10 ^ k→0<k→Rh k m t=Lib.decDigits m++t:=by
 intro k
 induction k with
 | zero=>intro m t _ h;omega
 | succ k ih=>
   intro m t hm _
   rw[Rh,Lib.decDigits]
   by_cases h:m<10
   · rw[if_pos h,dif_pos h];rfl
   · rw[if_neg h,dif_neg h]
     have hk:0<k:=by
      rcases Nat.eq_zero_or_pos k with rfl | h'
      · simp at hm;omega
      · exact h'
     rw[ih (m / 10) _ (by rw[Nat.pow_succ] at hm;omega) hk]
     simp[dg]
theorem TT (n:Int) (h0:-9223372036854775808≤n) (h1:n≤9223372036854775807):Lib.itoa n=txt n:=by
 have hd:∀ m:Nat,m≤9223372036854775808→dec m=Lib.decDigits m:=fun m hm=>by
  unfold dec
  rw[V7 20 m [] (Nat.lt_of_le_of_lt hm (by decide)) (by decide),List.append_nil]
 unfold Lib.itoa txt
 split
 · rw[hd _ (by omega)]
 · rw[hd _ (by omega)]
   congr 1;omega
theorem below_grow (w:World) (k:Nat) (os:Array Obj):Below w.heap.size w (Go.Sort.grow (w.drewN k) os):=
 ⟨rfl,rfl,rfl,by simp[Go.Sort.grow],fun i hi=>by
  show (w.heap++os)[i]? = _
  rw[Array.getElem?_append_left hi]⟩
def xI (h:Hp):Prop:=h 1=some ⟨Lib.pow10Tab.map (Value.int .u64),ro⟩
set_option maxHeartbeats 2000000 in
def Eo:Ct Tryz.prog where
 f:=24
 spec:=fun args h φ=>∃ n:Int,args=[.int .i64 n]∧-9223372036854775808≤n∧n≤9223372036854775807∧xI h∧φ (.string (B (txt n))) h
 ok:=by
  rintro args h φ w ⟨n,rfl,h0,h1,hp,hφ⟩ hH
  obtain⟨T,fz,hx⟩:=Ei hH hp
  have htab : Lib.TabIs Tryz.prog w "internal/strconv.uint64pow10" .u64 Lib.pow10Tab := by
   unfold Lib.TabIs World.var?
   rw [show Tryz.prog.globalNamed "internal/strconv.uint64pow10" = some 1 by kernel_rfl]
   simp only[Option.bind_some,hx]
  have hc:=Tryz.strconv_Itoa n h0 h1 w htab
  refine sD (hc.mono ?_) hφ hH
  rintro e w' ⟨rfl,k,os,rfl⟩
  rw[TT n h0 h1]
  exact⟨rfl,below_grow _ _ _⟩
end Go.Proofs.YtgpanefhaiohnaaGreatDoor
namespace Go.Proofs.YtgpanefhaiohnaaGreatDoor
open Go.RowKit
attribute [local go_sem] aZ aY ag ai ak aN au aC aj says_again BE.den IE.den SE.den LE.den AE.den CE.den PE.den VE.den KV.val dw.den dw.cnt iM dU iY allL Ctx.push Ctx.heap Ctx.cut Ctx.bare Ctx.mark Inc.blank List.getD_cons_zero List.getD_cons_succ List.cons_append List.nil_append List.append_nil List.map_cons List.map_nil List.replicate_zero List.replicate_succ aB bQ bu bG bn bY cO aU aT aV bF bD aF aO aH aA ax aS aI bW af and_assoc
def Og:Fm:=(.loop 0 ⟨[(.c 0),(.c 0)],[],[],[],[],[]⟩
 (.ite (.lt (.x 1) (.cnt (.x 0)))
 (.N (.X (.x 1) (.x 0))
 (.O (.el (.x 0) (.x 1) 1 0) 1 [(.s (.x 1))] ⟨0,0,1,0,0,0⟩
 (.ite (.eqS (.x 0) (.x 1))
 (.ret (.p (.J 1)))
 (.N (.R (.add (.x 1) (.c 1)))
 (.again 0 ⟨0,0,1,0,1,0⟩ ⟨2,0,1,0,1,0⟩ ⟨[(.x 0),(.add (.x 1) (.c 1))],[],[],[],[],[]⟩)))))
 (.ret (.p (.I (.c (-1)))))))
theorem Tv:df ⟨true,[]⟩ Tryz.prog (fun l=>([⟨[4,8],[9,10,5,11,12,13,14,15,16,17,18],[]⟩]:List dL).getD l ⟨[],[],[]⟩) Tryz.f15=Og:=by kernel_rfl
theorem Xh:aX Tryz.prog .zero Tryz.f15.params.toList=some ([.L 0,.S 0],⟨0,0,1,0,1,0⟩):=by kernel_rfl
def HY:Fm:=(.loop 0 ⟨[(.c 0)],[(.c false)],[],[],[.nil,.nil],[]⟩
 (.ite (.lt (.x 0) (.cnt (.x 0)))
 (.N (.X (.x 0) (.x 0))
 (.O (.el (.x 0) (.x 0) 1 0) 1 [(.s (.x 0))] ⟨0,0,1,0,0,0⟩
 (.C 60 [.S 0] (.tup [.J 1,.J 2]) ⟨2,0,0,0,0,0⟩
 (.ite (.not (.eqI (.x 2) (.c 0)))
 (.ret (.tup [(.one (.sl .nil)),(.one (.b (.c false)))]))
 (.mk [.J 1] 2 1
 (.app (.x 2) (.x 3) 1 8 2
 (.N (.R (.add (.x 0) (.c 1)))
 (.again 0 ⟨0,0,0,0,1,0⟩ ⟨1,1,0,0,3,0⟩ ⟨[(.add (.x 0) (.c 1))],[(.x 0)],[],[],[(.x 1),(.x 4)],[]⟩))))))))
 (.ret (.tup [.L 2,(.one (.b (.c true)))]))))
theorem P9:df ⟨true,[]⟩ Tryz.prog (fun l=>([⟨[2,3,4,11],[12,13,14,6,16,17,15,18,19,7,8,20,21,22,23,24,25,26],[]⟩]:List dL).getD l ⟨[],[],[]⟩) Tryz.f36=HY:=by kernel_rfl
theorem UF:aX Tryz.prog .zero Tryz.f36.params.toList=some ([.L 0],⟨0,0,0,0,1,0⟩):=by kernel_rfl
def Hw:Fm:=(.mk [] 2 0
 (.loop 0 ⟨[(.c 0)],[(.c false)],[],[],[.nil,(.x 1)],[]⟩
 (.ite (.lt (.x 0) (.cnt (.x 0)))
 (.N (.X (.x 0) (.x 0))
 (.O (.el (.x 0) (.x 0) 1 0) 1 [(.s (.x 0))] ⟨0,0,1,0,0,0⟩
 (.C 62 [.S 0] (.tup [.J 1,.J 2]) ⟨2,0,0,0,0,0⟩
 (.ite (.not (.eqI (.x 2) (.c 0)))
 (.ret (.tup [.L 3,(.one (.b (.c false)))]))
 (.mk [.J 1] 2 1
 (.app (.x 3) (.x 4) 1 8 2
 (.N (.R (.add (.x 0) (.c 1)))
 (.again 0 ⟨0,0,0,0,2,0⟩ ⟨1,1,0,0,4,0⟩ ⟨[(.add (.x 0) (.c 1))],[(.x 0)],[],[],[(.x 2),(.x 5)],[]⟩))))))))
 (.ret (.tup [.L 3,(.one (.b (.c true)))])))))
theorem P5:df ⟨true,[]⟩ Tryz.prog (fun l=>([⟨[2,3,4,11],[12,13,5,15,16,17,18,19,14,20,21,6,7,22,23,24,25,26,27,28,29],[]⟩]:List dL).getD l ⟨[],[],[]⟩) Tryz.f41=Hw:=by kernel_rfl
theorem UB:aX Tryz.prog .zero Tryz.f41.params.toList=some ([.L 0],⟨0,0,0,0,1,0⟩):=by kernel_rfl
def Cf:Fm:=(.C 60 [.S 0] (.tup [.J 0,.J 1]) ⟨2,0,0,0,0,0⟩
 (.ret (.tup [(.I (.ite (.lt (.c 1048576) (.x 0)) (.c 1048576) (.x 0))),(.one (.b (.and (.and (.eqI (.x 1) (.c 0)) (.le (.c 0) (.x 0))) (.le (.x 0) (.c 1048576)))))])))
theorem KZ:df ⟨true,[]⟩ Tryz.prog (fun l=>([]:List dL).getD l ⟨[],[],[]⟩) Tryz.f37=Cf:=by kernel_rfl
theorem QM:aX Tryz.prog .zero Tryz.f37.params.toList=some ([.S 0],⟨0,0,1,0,0,0⟩):=by kernel_rfl
def BV:Fm:=(.C 62 [.S 0] (.tup [.J 0,.J 1]) ⟨2,0,0,0,0,0⟩
 (.ite (.or (.or (.not (.eqI (.x 1) (.c 0))) (.lt (.x 0) (.c 0))) (.lt (.c 1048576) (.x 0)))
 (.ret (.p (.I (.c (-1)))))
 (.ret (.p (.J 0)))))
theorem KQ:df ⟨true,[]⟩ Tryz.prog (fun l=>([]:List dL).getD l ⟨[],[],[]⟩) Tryz.f42=BV:=by kernel_rfl
theorem QF:aX Tryz.prog .zero Tryz.f42.params.toList=some ([.S 0],⟨0,0,1,0,0,0⟩):=by kernel_rfl
theorem Row.nns {h:Hp} {s:bg} {xs:List Value} {n sz:Nat} (R:Row h s xs n sz) (hn:0<n):s.a.isSome=true:=by
 rcases R.rd with ⟨h1,_⟩ | ⟨h1,_⟩
 · have:=R.cnt;omega
 · cases hs:s.a with
   | none=>exact absurd hs h1
   | some z=>rfl
def lN (x:List UInt8) (L:List (List UInt8)):Int:=match L.findIdx? (·==x) with
 | some i=>i
 | none=>-1
theorem Oq {x:List UInt8} {L:List (List UInt8)} {i:Nat} (hx:L[i]? = some x) (hno:∀ j,j<i→L[j]?≠some x):lN x L=i:=by
 have hlt:=(List.getElem?_eq_some_iff.1 hx).1
 have:L.findIdx? (·==x)=some i:=by
  rw[List.findIdx?_eq_some_iff_getElem]
  refine⟨hlt,by simp[(List.getElem?_eq_some_iff.1 hx).2],fun j hj=>?_⟩
  have h1:=hno j hj
  rw[List.getElem?_eq_getElem (by omega)] at h1
  simpa using h1
 unfold lN;rw[this]
theorem Ir {x:List UInt8} {L:List (List UInt8)} (hno:∀ j,j<L.length→L[j]?≠some x):lN x L=-1:=by
 have:L.findIdx? (·==x)=none:=by
  rw[List.findIdx?_eq_none_iff]
  intro y hy
  obtain⟨j,hj,rfl⟩:=List.getElem_of_mem hy
  have h1:=hno j hj
  rw[List.getElem?_eq_getElem hj] at h1
  simpa using h1
 unfold lN;rw[this]
def TP (s:bg) (x:List UInt8) (L:List (List UInt8)) (h:Hp):Nat→Ctx→Prop:=fun _ C=>
 ∃ (i0:Int) (i:Nat),C=⟨[i0,i],[],[x],[],[s],[],h,dY⟩∧i≤L.length∧∀ j,j<i→L[j]?≠some x
def EK (n:Nat):Nat→Ctx→Nat:=fun _ C=>n - (C.i.getD 1 0).toNat
set_option maxHeartbeats 1000000 in
def NF:Ct Tryz.prog where
 f:=15
 spec:=fun args h φ=>∃ s L x,args=[s.val,.string (B x)]∧Row h s (bZ L) L.length 1∧L.length≤300000∧φ (.int .i64 (lN x L)) h
 ok:=by
  rintro args h φ w ⟨s,L,x,rfl,R,hl,hφ⟩ hH
  refine dD Tryz.func15 Tv Xh [] φ (TP s x L h) (EK L.length) ⟨[],[],[x],[],[s],[],h,dY⟩ ⟨rfl,rfl,rfl,rfl,rfl,rfl⟩ af ?_ w hH rfl
  generalize hE:(⟨aB _,_,_,_⟩:Env)=E
  have ep:E.post=φ:=by rw[← hE]
  have ei:E.inv=(TP s x L h):=by rw[← hE]
  have em:E.meas=(EK L.length):=by rw[← hE]
  clear hE
  unfold Og
  have hn:=R.cnt
  refine aQ ?_ ?_
  · rw[ei]
    exact⟨0,0,rfl,Nat.zero_le _,fun j hj=>by omega⟩
  rw[ei,em]
  rintro i' bb ss vv ll pp hh M ⟨i0,i,hC,hi,hno⟩ hM
  cases hC
  by_cases hlt:i<L.length
  · have hx:L[i]? = some L[i]:=List.getElem?_eq_getElem hlt
    rw[ai,if_pos (by simp[go_sem,hn];omega)]
    have hns:=R.nns (by omega)
    rw[ae,ag];refine⟨by simp[go_sem,hn,hns,hlt],?_⟩
    rw[ae,au,if_pos (by rfl)]
    refine (ah _ _).2 ⟨⟨[],[],[L[i]],[],[],[]⟩,rfl,af,by simpa[go_sem] using R.str hx,?_⟩
    by_cases he:x=L[i]
    · rw[ae,ai,if_pos (by simp[go_sem];exact he)]
      rw[ae,aj,ep]
      rw[Oq (by rw[hx,← he]) hno] at hφ
      exact hφ
    · rw[ae,ai,if_neg (by simp[go_sem];exact he)]
      rw[ae,ag];refine⟨by simp[go_sem];omega,?_⟩
      rw[ae,says_again,ei,em]
      refine⟨⟨i0,i+1,rfl,by omega,fun j hj hjx=>?_⟩,?_⟩
      · by_cases hji:j=i
        · subst hji;rw[hx] at hjx;exact he (Option.some.inj hjx).symm
        · exact hno j (by omega) hjx
      · show _<M 0
        rw[hM];simp[EK,go_sem];omega
  · have:i=L.length:=by omega
    subst this
    rw[ai,if_neg (by simp[go_sem,hn])]
    rw[ae,aj,ep]
    rw[Ir hno] at hφ
    exact hφ
def rU:Ct Tryz.prog where
 f:=60
 spec:=fun args h φ=>∃ l:List UInt8,args=[.string (B l)]∧l.length<1000000∧φ (.tuple #[.int .i64 (pv l).1,.int .i64 (pv l).2]) h
 ok:=by rintro args h φ w ⟨l,rfl,hl,hφ⟩ hH;exact Es (LQ l w hl) hφ hH
def pK:Ct Tryz.prog where
 f:=62
 spec:=fun args h φ=>∃ l:List UInt8,args=[.string (B l)]∧l.length<1000000∧φ (.tuple #[.int .i64 (pv l).1,.int .i64 (pv l).2]) h
 ok:=by rintro args h φ w ⟨l,rfl,hl,hφ⟩ hH;exact sD (MO l w hl) hφ hH
theorem Dw (l:List UInt8):(0≤numOf l↔(pv l).2=0∧0≤(pv l).1∧(pv l).1≤1048576)∧(0≤numOf l→numOf l=(pv l).1)∧(¬ 0≤numOf l→numOf l=-1):=by
 unfold numOf
 split
 · rename_i h
   exact⟨⟨fun _=>h,fun h=>h.2.1⟩,fun _=>rfl,fun h'=>absurd h.2.1 h'⟩
 · rename_i h
   exact⟨⟨fun h'=>absurd h' (by decide),fun h'=>absurd h' h⟩,fun h'=>absurd h' (by decide),fun _=>rfl⟩
def GX:Ct Tryz.prog where
 f:=37
 spec:=fun args h φ=>∃ l:List UInt8,args=[.string (B l)]∧l.length<1000000∧(0≤numOf l→φ (.tuple #[.int .i64 (numOf l),.bool true]) h)∧(¬ 0≤numOf l→∀ v,φ (.tuple #[.int .i64 v,.bool false]) h)
 ok:=by
  rintro args h φ w ⟨l,rfl,hl,h1,h2⟩ hH
  refine dD Tryz.func37 KZ QM [rU] φ (ig) (eX) ⟨[],[],[l],[],[],[],h,dY⟩ ⟨rfl,rfl,rfl,rfl,rfl,rfl⟩ af ?_ w hH rfl
  generalize hE:(⟨aB _,_,_,_⟩:Env)=E
  have s_ctNParse:E.spec 60=(rU).spec:=by rw[← hE];rfl
  have ep:E.post=φ:=by rw[← hE]
  clear hE
  unfold Cf
  rw[ak,if_pos (by rfl),s_ctNParse]
  refine⟨l,rfl,hl,fun h=>(by cases h),(ah _ _).2 ⟨⟨[(pv l).1,(pv l).2],[],[],[],[],[]⟩,rfl,af,rfl,?_⟩⟩
  rw[ae,aj,ep]
  obtain⟨n1,n2,n3⟩:=Dw l
  by_cases h0:0≤numOf l
  · have h3:=h1 h0
    have h4:=n1.1 h0
    rw[n2 h0] at h3
    have h5:JU 1048576 (pv l).1=false:=by rw[bY];omega
    have h6:leB 0 (pv l).1=true:=by rw[bn];exact h4.2.1
    have h7:leB (pv l).1 1048576=true:=by rw[bn];exact h4.2.2
    simpa[go_sem,h4.1,h5,h6,h7] using h3
  · have hb:(((pv l).2==0&&leB 0 (pv l).1)&&leB (pv l).1 1048576)=false:=by
     rw[Bool.eq_false_iff]
     intro h
     simp[bn] at h
     exact h0 (n1.2 ⟨h.1.1,h.1.2,h.2⟩)
    have h3:=h2 h0 (bif JU 1048576 (pv l).1 then 1048576 else (pv l).1)
    rw[← hb] at h3
    simpa[go_sem] using h3
def GU:Ct Tryz.prog where
 f:=42
 spec:=fun args h φ=>∃ l:List UInt8,args=[.string (B l)]∧l.length<1000000∧φ (.int .i64 (numOf l)) h
 ok:=by
  rintro args h φ w ⟨l,rfl,hl,hφ⟩ hH
  refine dD Tryz.func42 KQ QF [pK] φ (ig) (eX) ⟨[],[],[l],[],[],[],h,dY⟩ ⟨rfl,rfl,rfl,rfl,rfl,rfl⟩ af ?_ w hH rfl
  generalize hE:(⟨aB _,_,_,_⟩:Env)=E
  have s_ctRParse1:E.spec 62=(pK).spec:=by rw[← hE];rfl
  have ep:E.post=φ:=by rw[← hE]
  clear hE
  unfold BV
  rw[ak,if_pos (by rfl),s_ctRParse1]
  refine⟨l,rfl,hl,fun h=>(by cases h),(ah _ _).2 ⟨⟨[(pv l).1,(pv l).2],[],[],[],[],[]⟩,rfl,af,rfl,?_⟩⟩
  obtain⟨n1,n2,n3⟩:=Dw l
  by_cases h0:0≤numOf l
  · have h4:=n1.1 h0
    rw[n2 h0] at hφ
    rw[ae,ai,if_neg (by simp[go_sem,h4.1,h4.2.1,h4.2.2])]
    rw[ae,aj,ep]
    exact hφ
  · have h4:¬ ((pv l).2=0∧0≤(pv l).1∧(pv l).1≤1048576):=fun h=>h0 (n1.2 h)
    rw[n3 h0] at hφ
    rw[ae,ai,if_pos (by simp[go_sem];omega)]
    rw[ae,aj,ep]
    exact hφ
end Go.Proofs.YtgpanefhaiohnaaGreatDoor
namespace Go.Proofs.YtgpanefhaiohnaaGreatDoor
open Go.RowKit
attribute [local go_sem] aZ aY ag ai ak aN au aC aj says_again BE.den IE.den SE.den LE.den AE.den CE.den PE.den VE.den KV.val dw.den dw.cnt iM dU iY allL Ctx.push Ctx.heap Ctx.cut Ctx.bare Ctx.mark Inc.blank List.getD_cons_zero List.getD_cons_succ List.cons_append List.nil_append List.append_nil List.map_cons List.map_nil List.replicate_zero List.replicate_succ aB bQ bu bG bn bY cO aU aT aV bF bD aF aO aH aA ax aS aI bW af and_assoc
def Cb:Fm:=(.C 35 [.S 0,.W [10]] (.p (.L 0)) ⟨0,0,0,0,1,0⟩
 (.N (.R (.sub (.cnt (.x 0)) (.c 1)))
 (.N (.X (.sub (.cnt (.x 0)) (.c 1)) (.x 0))
 (.O (.el (.x 0) (.sub (.cnt (.x 0)) (.c 1)) 1 0) 1 [(.s (.x 1))] ⟨0,0,1,0,0,0⟩
 (.ite (.eqS (.x 1) (.c []))
 (.N (.R (.sub (.cnt (.x 0)) (.c 1)))
 (.N (.and (.and (.le (.c 0) (.sub (.cnt (.x 0)) (.c 1))) (.le (.sub (.cnt (.x 0)) (.c 1)) (.cap (.x 0)))) (.and (.le (.c 0) (.c 0)) (.le (.c 0) (.sub (.cnt (.x 0)) (.c 1)))))
 (.ret (.p (.one (.sl (.sub (.x 0) (.c 0) (.sub (.cnt (.x 0)) (.c 1)) 1)))))))
 (.ret (.p (.L 0))))))))
theorem KU:df ⟨true,[]⟩ Tryz.prog (fun l=>([]:List dL).getD l ⟨[],[],[]⟩) Tryz.f14=Cb:=by kernel_rfl
theorem QJ:aX Tryz.prog .zero Tryz.f14.params.toList=some ([.S 0],⟨0,0,1,0,0,0⟩):=by kernel_rfl
def BP:Fm:=(.C 40 [.S 0,(.one (.i .u8 (.c 10)))] (.p (.L 0)) ⟨0,0,0,0,1,0⟩
 (.N (.R (.sub (.cnt (.x 0)) (.c 1)))
 (.N (.X (.sub (.cnt (.x 0)) (.c 1)) (.x 0))
 (.O (.el (.x 0) (.sub (.cnt (.x 0)) (.c 1)) 1 0) 1 [(.s (.x 1))] ⟨0,0,1,0,0,0⟩
 (.ite (.eqS (.x 1) (.c []))
 (.N (.R (.sub (.cnt (.x 0)) (.c 1)))
 (.N (.and (.and (.le (.c 0) (.sub (.cnt (.x 0)) (.c 1))) (.le (.sub (.cnt (.x 0)) (.c 1)) (.cap (.x 0)))) (.and (.le (.c 0) (.c 0)) (.le (.c 0) (.sub (.cnt (.x 0)) (.c 1)))))
 (.ret (.p (.one (.sl (.sub (.x 0) (.c 0) (.sub (.cnt (.x 0)) (.c 1)) 1)))))))
 (.ret (.p (.L 0))))))))
theorem KJ:df ⟨true,[]⟩ Tryz.prog (fun l=>([]:List dL).getD l ⟨[],[],[]⟩) Tryz.f17=BP:=by kernel_rfl
theorem QA:aX Tryz.prog .zero Tryz.f17.params.toList=some ([.S 0],⟨0,0,1,0,0,0⟩):=by kernel_rfl
def BX:Fm:=(.mk [] 9 0
 (.loop 0 ⟨[(.c 0),(.c 0)],[],[],[],[(.x 0)],[]⟩
 (.ite (.le (.x 2) (.len (.x 0)))
 (.need (.not (.eqI (.x 2) (.len (.x 0)))) (.and (.le (.c 0) (.x 2)) (.lt (.x 2) (.len (.x 0))))
 (.ite (.or (.eqI (.x 2) (.len (.x 0))) (.eqI (.at (.x 0) (.x 2)) (.x 0)))
 (.N (.and (.and (.le (.c 0) (.x 2)) (.le (.x 2) (.len (.x 0)))) (.and (.le (.c 0) (.x 1)) (.le (.x 1) (.x 2))))
 (.mk [(.s (.sub (.x 0) (.x 1) (.x 2)))] 9 1
 (.app (.x 1) (.x 2) 1 16 9
 (.N (.R (.add (.x 2) (.c 1)))
 (.N (.R (.add (.x 2) (.c 1)))
 (.again 0 ⟨1,0,1,0,1,0⟩ ⟨3,0,1,0,2,0⟩ ⟨[(.add (.x 2) (.c 1)),(.add (.x 2) (.c 1))],[],[],[],[(.x 3)],[]⟩))))))
 (.N (.R (.add (.x 2) (.c 1)))
 (.again 0 ⟨1,0,1,0,1,0⟩ ⟨3,0,1,0,2,0⟩ ⟨[(.x 1),(.add (.x 2) (.c 1))],[],[],[],[(.x 1)],[]⟩))))
 (.ret (.p (.L 1))))))
theorem KR:df ⟨true,[]⟩ Tryz.prog (fun l=>([⟨[5,6,7],[9,10,11,12,15,16,17,18,19,20,21,22,23,24,25,26,27,28,29,30,31,32,33,34,13,14],[]⟩]:List dL).getD l ⟨[],[],[]⟩) Tryz.f40=BX:=by kernel_rfl
theorem QG:aX Tryz.prog .zero Tryz.f40.params.toList=some ([.S 0,(.one (.U 0))],⟨1,0,1,0,0,0⟩):=by kernel_rfl
theorem dV {E:Env} {C:Ctx} {xe ye:LE} {sz bytes b1:Nat} {T:TypeId} {f:Fm} {sl:bg} {xs cs:List Value} {h:Hp} (hx:xe.den C=sl) (hy:ye.den C=⟨some (b1,0),1,1⟩) (O:bJ h sl xs T sz)
 (hC:C.h=h.set b1 ⟨cs,T⟩) (hb1:h b1=none) (hlen:cs.length=sz) (ho:dZ cs) (hn:sl.n≤2000000) (hby:bytes≤64)
 (hk:∀ s' k,bJ k s' (xs++cs) T sz→s'.n=sl.n+1→(∀ z,s'.a=some z→(∃ y,sl.a=some y∧y.1=z.1)∨h z.1=none)→(∀ b o,(∀ x,sl.a=some x→x.1≠b)→h b=some o→k b=some o)→
  Then E f ((C.push ⟨[],[],[],[],[s'],[]⟩).heap k)):(Fm.app xe ye sz bytes T f).says E C:=by
 have hm:(2000001:Nat)≤maxLen:=by decide
 have zne:∀ z,sl.a=some z→z.1≠b1:=fun z hz e=>by
  obtain⟨c,h1⟩:=oV O hz
  rw[e,hb1] at h1;cases h1
 rw[fG,hx,hy,hC]
 refine⟨xs,cs,cZ O fun z c hz hc=>by rw[bi _ (zne z hz)];exact hc,.inr ⟨by simp,?_⟩,ho,?_,?_,fun s' k g1 g2 g3 g4=>?_⟩
 · rw[aH,if_pos (by simp[hlen])];simp[← hlen]
 · show sl.n+1≤maxLen
   omega
 · show (sl.n+1)*bytes≤_
   have:(sl.n+1)*bytes≤2000001*64:=Nat.mul_le_mul (by omega) hby
   omega
 · refine hk s' k g1 g2 (fun z hz=>?_) fun b o hb hh=>g4 b o hb (by rw[bi _ (fun e=>by rw[e,hb1] at hh;cases hh)];exact hh)
   rcases g3 z hz with h1 | h1
   · exact .inl h1
   · have m1:z.1≠b1:=fun e=>by rw[e,ax] at h1;cases h1
     rw[bi _ m1] at h1
     exact .inr h1
theorem wR (c:UInt8) (l:List UInt8):∃ x,(aW c l)[(aW c l).length - 1]? = some x∧(aW c l).getLast? = some x:=by
 have hne:=jf c l
 refine⟨(aW c l).getLast hne,?_,List.getLast?_eq_some_getLast hne⟩
 rw[List.getLast_eq_getElem,List.getElem?_eq_getElem]
theorem OM {h:Hp} {s:bg} {xs:List Value} {T:TypeId} {sz:Nat} (O:bJ h s xs T sz):s.n≤s.c:=by
 rcases O with ⟨rfl,_⟩ | ⟨b,o,_,_,_,_,h5,_⟩
 · exact Nat.le_refl _
 · exact h5
theorem uj {h:Hp} {s s':bg} {l:List (List UInt8)} (R:Row h s (bZ l) l.length 1) (ha:s'.a=s.a) (hn:s'.n=l.length - 1):Row h s' (bZ l.dropLast) l.dropLast.length 1:=by
 have hd:l.dropLast=l.take (l.length - 1):=List.dropLast_eq_take
 refine⟨?_,by rw[hn];simp,by rw[jQ];simp⟩
 by_cases h0:l.length - 1=0
 · exact .inl ⟨by rw[hn,h0],by rw[hd,h0];rfl⟩
 · refine .inr ⟨?_,?_⟩
   · rw[ha]
     have:=R.nns (by omega)
     intro e
     rw[e] at this;cases this
   · rw[ha,hn]
     have:=R.at (k:=0) (m:=(l.length - 1)*1) (by omega) (by omega)
     have e:(s.a.map fun z=>(z.1,z.2+0))=s.a:=by cases s.a<;>rfl
     rw[e] at this
     rw[this,hd]
     congr 1
     unfold bZ
     rw[List.drop_zero,← List.map_take,Nat.mul_one]
def linesSpec (args:List Value) (h:Hp) (φ:Value→Hp→Prop):Prop:=∃ s,args=[.string (B s)]∧s.length≤200000∧qy h∧
 ∀ sl k,dm h k→(∃ b,sl.a=some (b,0)∧h b=none)→sl.n≤sl.c→Row k sl (bZ (bC s)) (bC s).length 1→φ sl.val k
set_option maxHeartbeats 1000000 in
def NH:Ct Tryz.prog where
 f:=14
 spec:=linesSpec
 ok:=by
  rintro args h φ w ⟨s,rfl,hl,hM,hφ⟩ hH
  refine dD Tryz.func14 KU QJ [xk] φ (ig) (eX) ⟨[],[],[s],[],[],[],h,dY⟩ ⟨rfl,rfl,rfl,rfl,rfl,rfl⟩ af ?_ w hH rfl
  generalize hE:(⟨aB _,_,_,_⟩:Env)=E
  have s_ctSplit:E.spec 35=(xk).spec:=by rw[← hE];rfl
  have ep:E.post=φ:=by rw[← hE]
  clear hE
  unfold Cb
  have hs:=jM 10 s
  have hc:=List.count_le_length (a:=(10:UInt8)) (l:=s)
  obtain⟨x,hx,hlast⟩:=wR 10 s
  generalize hL:aW 10 s=L at *
  have hln:bC s=if L.getLast? = some [] then L.dropLast else L:=by unfold bC;rw[hL]
  rw[ak,if_pos (by rfl),s_ctSplit]
  refine⟨s,10,rfl,hl,hM,fun b hb=>?_⟩
  rw[hL]
  have R:Row (h.set b ⟨bZ L,NT⟩) ⟨some (b,0),L.length,L.length⟩ (bZ L) L.length 1:=⟨.inr ⟨by simp,by rw[aH,if_pos (by simp[jQ])];simp[← jQ L]⟩,rfl,by rw[jQ];omega⟩
  refine⟨fun h=>(by cases h),(ah _ _).2 ⟨⟨[],[],[],[],[⟨some (b,0),L.length,L.length⟩],[]⟩,rfl,af,rfl,?_⟩⟩
  have e1:((L.length:Int) - 1).toNat=L.length - 1:=by omega
  rw[ae,ag];refine⟨by simp[go_sem];omega,?_⟩
  rw[ae,ag];refine⟨by simp[go_sem];omega,?_⟩
  rw[ae,au,if_pos (by rfl)]
  refine (ah _ _).2 ⟨⟨[],[],[x],[],[],[]⟩,rfl,af,by simpa[go_sem,e1] using R.str hx,?_⟩
  by_cases he:x=[]
  · rw[if_pos (by rw[hlast,he])] at hln
    rw[ae,ai,if_pos (by simp[go_sem];exact he)]
    rw[ae,ag];refine⟨by simp[go_sem];omega,?_⟩
    rw[ae,ag];refine⟨by simp[go_sem];omega,?_⟩
    rw[ae,aj,ep]
    refine hφ ⟨some (b,0),L.length - 1,L.length⟩ _ (dF hb _) ⟨b,rfl,hb⟩ (by show L.length - 1≤L.length;omega) (by rw[hln];exact uj R rfl rfl) |> cast ?_
    congr 1
    have h0:¬ L.length=0:=by omega
    simp[go_sem,e1,bg.val,h0]
  · rw[if_neg (by rw[hlast];simpa using he)] at hln
    rw[ae,ai,if_neg (by simp[go_sem];exact he)]
    rw[ae,aj,ep]
    exact hφ ⟨some (b,0),L.length,L.length⟩ _ (dF hb _) ⟨b,rfl,hb⟩ (Nat.le_refl _) (by rw[hln];exact R)
end Go.Proofs.YtgpanefhaiohnaaGreatDoor
namespace Go.Proofs.YtgpanefhaiohnaaGreatDoor
open Go.RowKit
attribute [local go_sem] aZ aY ag ai ak aN au aC aj says_again BE.den IE.den SE.den LE.den AE.den CE.den PE.den VE.den KV.val dw.den dw.cnt iM dU iY allL Ctx.push Ctx.heap Ctx.cut Ctx.bare Ctx.mark Inc.blank List.getD_cons_zero List.getD_cons_succ List.cons_append List.nil_append List.append_nil List.map_cons List.map_nil List.replicate_zero List.replicate_succ aB bQ bu bG bn bY cO aU aT aV bF bD aF aO aH aA ax aS aI bW af and_assoc
theorem eQ {h0 h k:Hp} {s s':bg} (hl:dm h0 h) (hf:∀ z,s.a=some z→h0 z.1=none) (hz:∀ z,s'.a=some z→(∃ y,s.a=some y∧y.1=z.1)∨h z.1=none) (hk:∀ b o,(∀ x,s.a=some x→x.1≠b)→h b=some o→k b=some o):
 dm h0 k∧∀ z,s'.a=some z→h0 z.1=none:=by
 refine⟨fun b o hb=>hk b o (fun x hx e=>by rw[← e,hf x hx] at hb;cases hb) (hl b o hb),fun z h1=>?_⟩
 rcases hz z h1 with ⟨y,hy,e⟩ | h2
 · rw[← e];exact hf y hy
 · cases hq:h0 z.1 with
   | none=>rfl
   | some o=>rw[hl _ _ hq] at h2;cases h2
theorem Q3 {c:UInt8} {l:List UInt8} {f i:Nat} (hf:f≤i) (hi:i≤l.length) (hno:∀ j,f≤j→j<i→l[j]?≠some c) (hc:i=l.length∨l[i]? = some c):
 aW c (l.drop f)=((l.take i).drop f)::(if i=l.length then [] else aW c (l.drop (i+1))):=by
 have hn:∀ x∈(l.take i).drop f,x≠c:=by
  intro x hx e
  obtain⟨j,hj,rfl⟩:=List.getElem_of_mem hx
  simp at hj
  refine hno (f+j) (by omega) (by omega) ?_
  rw[← e,List.getElem?_eq_getElem (by omega)]
  simp
 by_cases he:i=l.length
 · rw[if_pos he]
   subst he
   rw[List.take_length] at hn⊢
   exact iE hn
 · rw[if_neg he]
   rcases hc with hc | hc
   · exact absurd hc he
   · have hlt:i<l.length:=by omega
     have e:l.drop f=(l.take i).drop f++c::l.drop (i+1):=by
      conv=>lhs;rw[← List.take_append_drop i l]
      rw[List.drop_append_of_le_length (by simp;omega),List.drop_eq_getElem_cons hlt]
      rw[List.getElem?_eq_getElem hlt] at hc
      rw[Option.some.inj hc]
     conv=>lhs;rw[e]
     exact fV _ hn
def JH (c:UInt8) (l:List UInt8) (h:Hp):Nat→Ctx→Prop:=fun _ C=>
 ∃ (acc:List (List UInt8)) (f i:Nat) (s0 sl:bg) (k:Hp),C=⟨[(c.toNat:Int),(f:Int),(i:Int)],[],[l],[],[s0,sl],[],k,dY⟩∧dm h k∧(∀ z,sl.a=some z→h z.1=none)∧bJ k sl (bZ acc) NT 1∧sl.n=acc.length∧acc.length≤i∧
  ((i≤l.length∧f≤i∧aW c l=acc++aW c (l.drop f)∧∀ j,f≤j→j<i→l[j]?≠some c)∨(i=l.length+1∧aW c l=acc))
def D6 (n:Nat):Nat→Ctx→Nat:=fun _ C=>n+2 - (C.i.getD 2 0).toNat
theorem rP {l:List UInt8} {i:Nat} (c:UInt8) (hi:i<l.length):bt l i=(c.toNat:Int)↔l[i]? = some c:=by
 unfold bt
 rw[List.getD_eq_getElem?_getD,List.getElem?_eq_getElem hi]
 simp only[Option.getD_some,Option.some.injEq]
 constructor
 · intro h;exact UInt8.toNat.inj (by omega)
 · intro h;rw[h]
set_option maxHeartbeats 2000000 in
def rW:Ct Tryz.prog where
 f:=40
 spec:=fun args h φ=>∃ (l:List UInt8) (c:UInt8),args=[.string (B l),.int .u8 c.toNat]∧l.length≤200000∧
  ∀ sl k,dm h k→(∃ b,sl.a=some (b,0)∧h b=none)→bJ k sl (bZ (aW c l)) NT 1→sl.n=(aW c l).length→φ sl.val k
 ok:=by
  rintro args h φ w ⟨l,c,rfl,hl,hφ⟩ hH
  refine dD Tryz.func40 KR QG [] φ (JH c l h) (D6 l.length) ⟨[(c.toNat:Int)],[],[l],[],[],[],h,dY⟩ ⟨rfl,rfl,rfl,rfl,rfl,rfl⟩ af ?_ w hH rfl
  generalize hE:(⟨aB _,_,_,_⟩:Env)=E
  have ep:E.post=φ:=by rw[← hE]
  have ei:E.inv=(JH c l h):=by rw[← hE]
  have em:E.meas=(D6 l.length):=by rw[← hE]
  clear hE
  unfold BX
  rw[di]
  intro b0 hb0
  have hb0:h b0=none:=hb0
  refine aQ ?_ ?_
  · rw[ei]
    refine⟨[],0,0,⟨some (b0,0),0,0⟩,⟨some (b0,0),0,0⟩,h.set b0 ⟨[],NT⟩,rfl,dF hb0 _,fun z hz=>by cases hz;exact hb0,.inr ⟨b0,_,rfl,ax _ _ _,rfl,rfl,Nat.le_refl _,Nat.zero_le _,rfl⟩,rfl,Nat.le_refl _,.inl ⟨Nat.zero_le _,Nat.le_refl _,rfl,fun j _ hj=>by omega⟩⟩
  rw[ei,em]
  rintro i' bb ss vv ll pp hh M ⟨acc,f,i,s0,sl,k,hC,hle,hfr,O,hn,hai,hst⟩ hM
  cases hC
  have hc0:=c.toNat_lt
  have hM':M 0=l.length+2 - i:=hM
  rcases hst with ⟨hi,hfi,hsp,hno⟩ | ⟨hi,hsp⟩
  · rw[ai,if_pos (by simp[go_sem];omega)]
    rw[ae,ag];refine⟨by simp[go_sem];omega,?_⟩
    by_cases hq:i=l.length∨l[i]? = some c
    · have hcut:=Q3 hfi hi hno hq
      rw[ae,ai,if_pos (by
       simp[go_sem]
       rcases hq with hq | hq
       · exact .inl (by omega)
       · exact .inr ((rP c (List.getElem?_eq_some_iff.1 hq).1).2 hq))]
      rw[ae,ag];refine⟨by simp[go_sem];omega,?_⟩
      rw[ae,di]
      intro b1 hb1
      have hb1:hh b1=none:=hb1
      rw[ae]
      refine dV (h:=hh) (sl:=sl) (xs:=bZ acc) (cs:=[.string (B ((l.take i).drop f))]) (b1:=b1) rfl rfl O (by simp[go_sem]) hb1 rfl (gX [(l.take i).drop f]) (by omega) (by decide) fun s' k1 o1 n1 f1 g1=>?_
      obtain⟨hle1,hfr1⟩:=eQ hle hfr f1 g1
      rw[ae,ag];refine⟨by simp[go_sem];omega,?_⟩
      rw[ae,ag];refine⟨by simp[go_sem];omega,?_⟩
      rw[ae,says_again,ei,em]
      refine⟨⟨acc++[(l.take i).drop f],i+1,i+1,s0,s',k1,rfl,hle1,hfr1,by rw[lh];exact o1,by rw[n1,hn];simp,by simp;omega,?_⟩,?_⟩
      · by_cases he:i=l.length
        · refine .inr ⟨by omega,?_⟩
          rw[hsp,hcut,if_pos he]
        · refine .inl ⟨by omega,Nat.le_refl _,?_,fun j _ hj=>by omega⟩
          rw[hsp,hcut,if_neg he];simp
      · show l.length+2 - (((i:Int)+1).toNat)<M 0
        omega
    · have hq1:¬ i=l.length:=fun e=>hq (.inl e)
      have hq2:¬ l[i]? = some c:=fun e=>hq (.inr e)
      have hlt:i<l.length:=by omega
      have hq3:¬ bt l i=(c.toNat:Int):=fun e=>hq2 ((rP c hlt).1 e)
      rw[ae,ai,if_neg (by simp[go_sem];exact⟨by omega,hq3⟩)]
      rw[ae,ag];refine⟨by simp[go_sem];omega,?_⟩
      rw[ae,says_again,ei,em]
      refine⟨⟨acc,f,i+1,s0,sl,hh,rfl,hle,hfr,O,hn,by omega,.inl ⟨by omega,by omega,hsp,fun j h1 h2=>?_⟩⟩,?_⟩
      · by_cases e:j=i
        · rw[e];exact hq2
        · exact hno j h1 (by omega)
      · show l.length+2 - (((i:Int)+1).toNat)<M 0
        omega
  · subst hi
    rw[ai,if_neg (by simp[go_sem];omega)]
    rw[ae,aj,ep]
    have hne:sl.a≠none:=fun e=>by
     rcases O with ⟨h1,h2⟩ | ⟨b,o,h1,_⟩
     · have:acc.length=0:=by rw[← jQ,h2];rfl
       exact jf c l (by rw[hsp];exact List.length_eq_zero_iff.1 this)
     · rw[e] at h1;cases h1
    have hsa:∃ b,sl.a=some (b,0)∧h b=none:=by
     rcases O with ⟨h1,_⟩ | ⟨b,o,h1,_⟩
     · rw[h1] at hne;exact absurd rfl hne
     · exact⟨b,h1,hfr _ h1⟩
    exact hφ sl hh hle hsa (by rw[hsp];exact O) (by rw[hsp];exact hn)
set_option maxHeartbeats 1000000 in
def rV:Ct Tryz.prog where
 f:=17
 spec:=linesSpec
 ok:=by
  rintro args h φ w ⟨s,rfl,hl,hM,hφ⟩ hH
  refine dD Tryz.func17 KJ QA [rW] φ (ig) (eX) ⟨[],[],[s],[],[],[],h,dY⟩ ⟨rfl,rfl,rfl,rfl,rfl,rfl⟩ af ?_ w hH rfl
  generalize hE:(⟨aB _,_,_,_⟩:Env)=E
  have s_ctRSplit:E.spec 40=(rW).spec:=by rw[← hE];rfl
  have ep:E.post=φ:=by rw[← hE]
  clear hE
  unfold BP
  have hs:=jM 10 s
  have hc:=List.count_le_length (a:=(10:UInt8)) (l:=s)
  obtain⟨x,hx,hlast⟩:=wR 10 s
  rw[ak,if_pos (by rfl),s_ctRSplit]
  refine⟨s,10,rfl,hl,fun sl k hle hb O hn=>?_⟩
  generalize hL:aW 10 s=L at *
  have hln:bC s=if L.getLast? = some [] then L.dropLast else L:=by unfold bC;rw[hL]
  obtain⟨b,hba,hb0⟩:=hb
  have R:=Row.eu O hn
  have hcp:=OM O
  have hns:=R.nns (by omega)
  refine⟨fun h=>(by cases h),(ah _ _).2 ⟨⟨[],[],[],[],[sl],[]⟩,rfl,af,rfl,?_⟩⟩
  have e1:((L.length:Int) - 1).toNat=L.length - 1:=by omega
  rw[ae,ag];refine⟨by simp[go_sem,hn];omega,?_⟩
  rw[ae,ag];refine⟨by simp[go_sem,hn,hns];omega,?_⟩
  rw[ae,au,if_pos (by rfl)]
  refine (ah _ _).2 ⟨⟨[],[],[x],[],[],[]⟩,rfl,af,by simpa[go_sem,hn,e1] using R.str hx,?_⟩
  by_cases he:x=[]
  · rw[if_pos (by rw[hlast,he])] at hln
    rw[ae,ai,if_pos (by simp[go_sem];exact he)]
    rw[ae,ag];refine⟨by simp[go_sem,hn];omega,?_⟩
    rw[ae,ag];refine⟨by simp[go_sem,hn];omega,?_⟩
    rw[ae,aj,ep]
    refine hφ ⟨some (b,0),L.length - 1,sl.c⟩ _ hle ⟨b,rfl,hb0⟩ (by show L.length - 1≤sl.c;omega) (by rw[hln];exact uj R (by rw[hba]) rfl) |> cast ?_
    congr 1
    have h0:¬ sl.c=0:=by omega
    simp[go_sem,e1,bg.val,h0,hba,hn]
  · rw[if_neg (by rw[hlast];simpa using he)] at hln
    rw[ae,ai,if_neg (by simp[go_sem];exact he)]
    rw[ae,aj,ep]
    exact hφ sl _ hle ⟨b,hba,hb0⟩ hcp (by rw[hln];exact R)
end Go.Proofs.YtgpanefhaiohnaaGreatDoor
namespace Go.Proofs.YtgpanefhaiohnaaGreatDoor
open Go.RowKit
attribute [local go_sem] aZ aY ag ai ak aN au aC aj says_again BE.den IE.den SE.den LE.den AE.den CE.den PE.den VE.den KV.val dw.den dw.cnt iM dU iY allL Ctx.push Ctx.heap Ctx.cut Ctx.bare Ctx.mark Inc.blank List.getD_cons_zero List.getD_cons_succ List.cons_append List.nil_append List.append_nil List.map_cons List.map_nil List.replicate_zero List.replicate_succ aB bQ bu bG bn bY cO aU aT aV bF bD aF aO aH aA ax aS aI bW af and_assoc
theorem oP (y:List UInt8):∀ l:List (List UInt8),numsOf (l++[y])=if (pv y).2=0 then (numsOf l).map (·++[(pv y).1]) else none
 | []=>by
   simp only[List.nil_append,numsOf]
   by_cases h:(pv y).2=0<;>simp[h]
 | x::l=>by
   simp only[List.cons_append,numsOf]
   rw[oP y l]
   by_cases h:(pv x).2=0<;>by_cases h2:(pv y).2=0<;>simp[h,h2]
   cases numsOf l<;>simp
theorem zJ {l:List (List UInt8)} {y:List UInt8} (hy:y∈l) (h:(pv y).2≠0):numsOf l=none:=by
 induction l with
 | nil=>cases hy
 | cons x l ih=>
   rw[numsOf]
   rcases List.mem_cons.1 hy with rfl | hy
   · rw[if_neg h]
   · rw[ih hy];split<;>rfl
def I5 (args:List Value) (h:Hp) (φ:Value→Hp→Prop):Prop:=∃ s l,args=[s.val]∧Row h s (bZ l) l.length 1∧l.length≤200001∧(∀ x∈l,x.length≤200000)∧
 (∀ ns,numsOf l=some ns→∀ s' k,dm h k→(∀ z,s'.a=some z→h z.1=none)→bJ k s' (dQ ns) I6 1→s'.n=ns.length→φ (.tuple #[s'.val,.bool true]) k)∧
 (numsOf l=none→∀ ns s' k,dm h k→(∀ z,s'.a=some z→h z.1=none)→bJ k s' (dQ ns) I6 1→s'.n=ns.length→ns.length≤l.length→φ (.tuple #[s'.val,.bool false]) k)
theorem iT:∀ {l:List (List UInt8)} {ns:List Int},numsOf l=some ns→ns.length=l.length
 | [],ns,h=>by rw[numsOf] at h;cases h;rfl
 | x::l,ns,h=>by
   rw[numsOf] at h
   split at h
   · simp only[Option.map_eq_some_iff] at h
     obtain⟨m,h1,rfl⟩:=h
     rw[List.length_cons,List.length_cons,iT h1]
   · cases h
def JG (s:bg) (l:List (List UInt8)) (h:Hp):Nat→Ctx→Prop:=fun _ C=>
 ∃ (i:Nat) (ns:List Int) (bb:Bool) (s1 out:bg) (k:Hp),C=⟨[(i:Int)],[bb],[],[],[s,s1,out],[],k,dY⟩∧dm h k∧(∀ z,out.a=some z→h z.1=none)∧bJ k out (dQ ns) I6 1∧out.n=ns.length∧numsOf (l.take i)=some ns∧i≤l.length
def D5 (n:Nat):Nat→Ctx→Nat:=fun _ C=>n - (C.i.getD 0 0).toNat
set_option maxHeartbeats 2000000 in
def Bq:Ct Tryz.prog where
 f:=36
 spec:=I5
 ok:=by
  rintro args h φ w ⟨s,l,rfl,R,hl,hlx,hφ,hψ⟩ hH
  refine dD Tryz.func36 P9 UF [rU] φ (JG s l h) (D5 l.length) ⟨[],[],[],[],[s],[],h,dY⟩ ⟨rfl,rfl,rfl,rfl,rfl,rfl⟩ af ?_ w hH rfl
  generalize hE:(⟨aB _,_,_,_⟩:Env)=E
  have s_ctNParse:E.spec 60=(rU).spec:=by rw[← hE];rfl
  have ep:E.post=φ:=by rw[← hE]
  have ei:E.inv=(JG s l h):=by rw[← hE]
  have em:E.meas=(D5 l.length):=by rw[← hE]
  clear hE
  unfold HY
  have hn:=R.cnt
  refine aQ ?_ ?_
  · rw[ei]
    exact⟨0,[],false,iP,iP,h,rfl,fun _ _ h=>h,fun z hz=>(by cases hz),fF _ _ _,rfl,rfl,Nat.zero_le _⟩
  rw[ei,em]
  rintro i' bb ss vv ll pp hh M ⟨i,ns,b1,s1,out,k,hC,hle,hfr,O,hon,hns,hi⟩ hM
  cases hC
  have hM':M 0=l.length - i:=hM
  have hnl:=iT hns
  rw[List.length_take,Nat.min_eq_left hi] at hnl
  by_cases hlt:i<l.length
  · have hx:l[i]? = some l[i]:=List.getElem?_eq_getElem hlt
    have hxl:=hlx l[i] (List.getElem_mem hlt)
    rw[ai,if_pos (by simp[go_sem,hn];omega)]
    have hns':=R.nns (by omega)
    rw[ae,ag];refine⟨by simp[go_sem,hn,hns',hlt],?_⟩
    rw[ae,au,if_pos (by rfl)]
    refine (ah _ _).2 ⟨⟨[],[],[l[i]],[],[],[]⟩,rfl,af,by simpa[go_sem] using (R.le hle).str hx,?_⟩
    rw[ae,ak,if_pos (by rfl),s_ctNParse]
    refine⟨l[i],rfl,by omega,?_⟩
    refine⟨fun h=>(by cases h),(ah _ _).2 ⟨⟨[(pv l[i]).1,(pv l[i]).2],[],[],[],[],[]⟩,rfl,af,rfl,?_⟩⟩
    by_cases he:(pv l[i]).2=0
    · rw[ae,ai,if_neg (by simp[go_sem];exact he)]
      rw[ae,di]
      intro b2 hb2
      have hb2:hh b2=none:=hb2
      rw[ae]
      refine dV (h:=hh) (sl:=out) (xs:=dQ ns) (cs:=[.int .i64 (pv l[i]).1]) (b1:=b2) rfl rfl O (by simp[go_sem]) hb2 rfl (kK [(pv l[i]).1]) (by omega) (by decide) fun s' k1 o1 n1 f1 g1=>?_
      obtain⟨hle1,hfr1⟩:=eQ hle hfr f1 g1
      rw[ae,ag];refine⟨by simp[go_sem];omega,?_⟩
      rw[ae,says_again,ei,em]
      refine⟨⟨i+1,ns++[(pv l[i]).1],b1,s1,s',k1,rfl,hle1,hfr1,by rw[lg];exact o1,by rw[n1,hon];simp,?_,by omega⟩,?_⟩
      · rw[List.take_add_one,hx]
        show numsOf (l.take i++[l[i]])=_
        rw[oP,if_pos he,hns];rfl
      · show l.length - (((i:Int)+1).toNat)<M 0
        omega
    · rw[ae,ai,if_pos (by simp[go_sem];exact he)]
      rw[ae,aj,ep]
      have hbad:=zJ (List.getElem_mem hlt) he
      exact hψ hbad [] iP hh hle (fun z hz=>(by cases hz)) (fF _ _ _) rfl (Nat.zero_le _)
  · have:i=l.length:=by omega
    subst this
    rw[ai,if_neg (by simp[go_sem,hn])]
    rw[ae,aj,ep]
    rw[List.take_length] at hns
    exact hφ ns hns out hh hle hfr O hon
def Jt (s:bg) (l:List (List UInt8)) (h:Hp):Nat→Ctx→Prop:=fun _ C=>
 ∃ (i:Nat) (ns:List Int) (bb:Bool) (s0 s1 out:bg) (k:Hp),C=⟨[(i:Int)],[bb],[],[],[s,s0,s1,out],[],k,dY⟩∧dm h k∧(∀ z,out.a=some z→h z.1=none)∧bJ k out (dQ ns) I6 1∧out.n=ns.length∧numsOf (l.take i)=some ns∧i≤l.length
def DW (n:Nat):Nat→Ctx→Nat:=fun _ C=>n - (C.i.getD 0 0).toNat
set_option maxHeartbeats 2000000 in
def yg:Ct Tryz.prog where
 f:=41
 spec:=I5
 ok:=by
  rintro args h φ w ⟨s,l,rfl,R,hl,hlx,hφ,hψ⟩ hH
  refine dD Tryz.func41 P5 UB [pK] φ (Jt s l h) (DW l.length) ⟨[],[],[],[],[s],[],h,dY⟩ ⟨rfl,rfl,rfl,rfl,rfl,rfl⟩ af ?_ w hH rfl
  generalize hE:(⟨aB _,_,_,_⟩:Env)=E
  have s_ctRParse1:E.spec 62=(pK).spec:=by rw[← hE];rfl
  have ep:E.post=φ:=by rw[← hE]
  have ei:E.inv=(Jt s l h):=by rw[← hE]
  have em:E.meas=(DW l.length):=by rw[← hE]
  clear hE
  unfold Hw
  have hn:=R.cnt
  rw[di]
  intro b0 hb0
  have hb0:h b0=none:=hb0
  refine aQ ?_ ?_
  · rw[ei]
    exact⟨0,[],false,⟨some (b0,0),0,0⟩,iP,⟨some (b0,0),0,0⟩,h.set b0 ⟨[],I6⟩,rfl,dF hb0 _,fun z hz=>by cases hz;exact hb0,.inr ⟨b0,_,rfl,ax _ _ _,rfl,rfl,Nat.le_refl _,Nat.zero_le _,rfl⟩,rfl,rfl,Nat.zero_le _⟩
  rw[ei,em]
  rintro i' bb ss vv ll pp hh M ⟨i,ns,b1,s0,s1,out,k,hC,hle,hfr,O,hon,hns,hi⟩ hM
  cases hC
  have hM':M 0=l.length - i:=hM
  have hnl:=iT hns
  rw[List.length_take,Nat.min_eq_left hi] at hnl
  by_cases hlt:i<l.length
  · have hx:l[i]? = some l[i]:=List.getElem?_eq_getElem hlt
    have hxl:=hlx l[i] (List.getElem_mem hlt)
    rw[ai,if_pos (by simp[go_sem,hn];omega)]
    have hns':=R.nns (by omega)
    rw[ae,ag];refine⟨by simp[go_sem,hn,hns',hlt],?_⟩
    rw[ae,au,if_pos (by rfl)]
    refine (ah _ _).2 ⟨⟨[],[],[l[i]],[],[],[]⟩,rfl,af,by simpa[go_sem] using (R.le hle).str hx,?_⟩
    rw[ae,ak,if_pos (by rfl),s_ctRParse1]
    refine⟨l[i],rfl,by omega,?_⟩
    refine⟨fun h=>(by cases h),(ah _ _).2 ⟨⟨[(pv l[i]).1,(pv l[i]).2],[],[],[],[],[]⟩,rfl,af,rfl,?_⟩⟩
    by_cases he:(pv l[i]).2=0
    · rw[ae,ai,if_neg (by simp[go_sem];exact he)]
      rw[ae,di]
      intro b2 hb2
      have hb2:hh b2=none:=hb2
      rw[ae]
      refine dV (h:=hh) (sl:=out) (xs:=dQ ns) (cs:=[.int .i64 (pv l[i]).1]) (b1:=b2) rfl rfl O (by simp[go_sem]) hb2 rfl (kK [(pv l[i]).1]) (by omega) (by decide) fun s' k1 o1 n1 f1 g1=>?_
      obtain⟨hle1,hfr1⟩:=eQ hle hfr f1 g1
      rw[ae,ag];refine⟨by simp[go_sem];omega,?_⟩
      rw[ae,says_again,ei,em]
      refine⟨⟨i+1,ns++[(pv l[i]).1],b1,s0,s1,s',k1,rfl,hle1,hfr1,by rw[lg];exact o1,by rw[n1,hon];simp,?_,by omega⟩,?_⟩
      · rw[List.take_add_one,hx]
        show numsOf (l.take i++[l[i]])=_
        rw[oP,if_pos he,hns];rfl
      · show l.length - (((i:Int)+1).toNat)<M 0
        omega
    · rw[ae,ai,if_pos (by simp[go_sem];exact he)]
      rw[ae,aj,ep]
      have hbad:=zJ (List.getElem_mem hlt) he
      exact hψ hbad ns out hh hle hfr O hon (by omega)
  · have:i=l.length:=by omega
    subst this
    rw[ai,if_neg (by simp[go_sem,hn])]
    rw[ae,aj,ep]
    rw[List.take_length] at hns
    exact hφ ns hns out hh hle hfr O hon
end Go.Proofs.YtgpanefhaiohnaaGreatDoor
namespace Go.Proofs.YtgpanefhaiohnaaGreatDoor
open Go.RowKit
attribute [local go_sem] aZ aY ag ai ak aN au aC aj says_again BE.den IE.den SE.den LE.den AE.den CE.den PE.den VE.den KV.val dw.den dw.cnt iM dU iY allL Ctx.push Ctx.heap Ctx.cut Ctx.bare Ctx.mark Inc.blank List.getD_cons_zero List.getD_cons_succ List.cons_append List.nil_append List.append_nil List.map_cons List.map_nil List.replicate_zero List.replicate_succ aB bQ bu bG bn bY cO aU aT aV bF bD aF aO aH aA ax aS aI bW af and_assoc
def yJ:Fm:=(.ite (.eqS (.x 0) (.c [102,117,101,108]))
 (.Z 0
 (.Z 0
 (.Z 0
 (.store (.pt 0 2) [.J 0]
 (.ret (.p (.one (.b (.c true)))))))))
 (.ite (.eqS (.x 0) (.c [104,101,97,112]))
 (.Z 0
 (.Z 0
 (.Z 0
 (.store (.pt 0 3) [.J 0]
 (.ret (.p (.one (.b (.c true)))))))))
 (.ite (.eqS (.x 0) (.c [115,116,97,99,107]))
 (.Z 0
 (.Z 0
 (.Z 0
 (.store (.pt 0 4) [.J 0]
 (.ret (.p (.one (.b (.c true)))))))))
 (.ite (.eqS (.x 0) (.c [101,118,101,114,121]))
 (.Z 0
 (.Z 0
 (.Z 0
 (.store (.pt 0 5) [.J 0]
 (.ret (.p (.one (.b (.c true)))))))))
 (.ite (.eqS (.x 0) (.c [107,101,101,112]))
 (.Z 0
 (.Z 0
 (.Z 0
 (.store (.pt 0 6) [.J 0]
 (.ret (.p (.one (.b (.c true)))))))))
 (.ite (.eqS (.x 0) (.c [104,111,116]))
 (.Z 0
 (.Z 0
 (.Z 0
 (.store (.pt 0 7) [.J 0]
 (.ret (.p (.one (.b (.c true)))))))))
 (.ite (.eqS (.x 0) (.c [98,97,115,101]))
 (.Z 0
 (.Z 0
 (.Z 0
 (.O (.pt 0 9) 1 [(.sl (.x 0))] ⟨0,0,0,0,1,0⟩
 (.mk [.J 0,(.i .i64 (.c 3)),(.i .i64 (.c 0))] 53 1
 (.app (.x 0) (.x 1) 3 24 53
 (.Z 0
 (.Z 0
 (.Z 0
 (.store (.pt 0 9) [(.sl (.x 2))]
 (.Z 0
 (.Z 0
 (.O (.pt 0 10) 1 [(.sl (.x 3))] ⟨0,0,0,0,1,0⟩
 (.mk [(.s (.c []))] 9 1
 (.app (.x 3) (.x 4) 1 16 9
 (.Z 0
 (.Z 0
 (.store (.pt 0 10) [(.sl (.x 5))]
 (.ret (.p (.one (.b (.c true)))))))))))))))))))))))
 (.ret (.p (.one (.b (.c false))))))))))))
theorem Ij:df ⟨true,[]⟩ Tryz.prog (fun l=>([]:List dL).getD l ⟨[],[],[]⟩) Tryz.f39=yJ:=by kernel_rfl
theorem MC:aX Tryz.prog .zero Tryz.f39.params.toList=some ([.P 0,.S 0,.J 0],⟨1,0,1,0,0,1⟩):=by kernel_rfl
structure Sps (h0 h:Hp) (b:Nat) (q:Ss) (x:gu):Prop where
 blk:h b=some ⟨bz q x,ST⟩
 w:Bi h q x
 fit:Fit h0 h b q
theorem jr {h:Hp} {b off:Nat} {cs:List Value} {T:TypeId} {v:Value} (hb:h b=some ⟨cs,T⟩) (ho:off+1≤cs.length) (hT:T<1000000):
 jk h (some (b,off)) [v]=some (h.set b ⟨cs.take off++[v]++cs.drop (off+1),T⟩):=by
 unfold jk
 simp only[hb]
 rw[if_pos ⟨ho,hT⟩]
 rfl
theorem lM {h:Hp} {b off:Nat} {cs:List Value} {T:TypeId} {v:Value} (hb:h b=some ⟨cs,T⟩) (hv:cs[off]? = some v):hread h (some (b,off)) 1=some [v]:=by
 have ho:=(List.getElem?_eq_some_iff.1 hv).1
 rw[dN hb,if_pos (show off+1≤cs.length from ho)]
 show some ((cs.drop off).take 1)=_
 rw[List.drop_eq_getElem_cons ho,(List.getElem?_eq_some_iff.1 hv).2]
 rfl
section
variable {h0 h k:Hp} {b:Nat} {q:Ss} {x y:gu}
theorem Sps.num (H:Sps h0 h b q x) (hi:y.ins=x.ins) (hd:y.draws=x.draws) (he:y.evict=x.evict) (ha:y.acts=x.acts) (hn:y.names=x.names) (hl:y.lines=x.lines):Sps h0 (h.set b ⟨bz q y,ST⟩) b q y:=by
 have W:=H.w.but (k:=h.set b ⟨bz q y,ST⟩) H.blk fun c o hc ho=>by rw[bi _ hc];exact ho
 refine⟨ax _ _ _,⟨by rw[hi];exact W.i,by rw[hi];exact W.i',by rw[hd];exact W.d,by rw[hd];exact W.d',by rw[he];exact W.e,by rw[he];exact W.e',by rw[ha];exact W.a,by rw[ha];exact W.a',by rw[hn];exact W.n,by rw[hn];exact W.n',W.l,by rw[hl];exact W.l'⟩,
  ⟨fun c o hc=>?_,H.fit.apart⟩⟩
 rw[bi _ (H.fit.apart c (by rw[hc];simp)).b]
 exact H.fit.le c o hc
theorem Sps.act (H:Sps h0 h b q x) (a:Int×Int×Int) {s':bg} (o1:bJ k s' (eP x.acts++eP [a]) JQ 3) (n1:s'.n=q.a.n+1) (f1:∀ z,s'.a=some z→(∃ y,q.a.a=some y∧y.1=z.1)∨h z.1=none)
 (g1:∀ b o,(∀ x,q.a.a=some x→x.1≠b)→h b=some o→k b=some o):
 k b=some ⟨bz q x,ST⟩∧Sps h0 (k.set b ⟨bz { q with a:=s' } { x with acts:=x.acts++[a] },ST⟩) b { q with a:=s' } { x with acts:=x.acts++[a] }:=by
 have hkb:k b=some ⟨bz q x,ST⟩:=g1 b _ (own_ne H.w.a H.blk Gm) H.blk
 have o1':bJ k s' (eP (x.acts++[a])) JQ 3:=by rw[mX];exact o1
 have hk2:∀ c o,c≠b→k c=some o→(k.set b ⟨bz { q with a:=s' } { x with acts:=x.acts++[a] },ST⟩) c=some o:=fun c o hc ho=>by rw[bi _ hc];exact ho
 have W:=H.w
 refine⟨hkb,ax _ _ _,⟨?_,W.i',?_,W.d',?_,W.e',?_,?_,?_,W.n',W.l,W.l'⟩,⟨fun c o hc=>?_,fun c hc=>?_⟩⟩
 · have:=dW W.i W.a TJ g1
   exact cZ this fun z _ hz hc=>hk2 _ _ (own_ne this hkb qG z hz) hc
 · have:=dW W.d W.a TJ g1
   exact cZ this fun z _ hz hc=>hk2 _ _ (own_ne this hkb qG z hz) hc
 · have:=dW W.e W.a Yb g1
   exact cZ this fun z _ hz hc=>hk2 _ _ (own_ne this hkb Iy z hz) hc
 · exact cZ o1' fun z _ hz hc=>hk2 _ _ (own_ne o1' hkb Gm z hz) hc
 · show s'.n=(x.acts++[a]).length
   rw[n1,W.a'];simp
 · have:=dW W.n W.a oN g1
   exact cZ this fun z _ hz hc=>hk2 _ _ (own_ne this hkb Dv z hz) hc
 · have A:=H.fit.apart c (by rw[hc];simp)
   exact hk2 _ _ A.b (g1 c o A.a (H.fit.le c o hc))
 · have A:=H.fit.apart c hc
   refine⟨A.b,fun z hz=>?_,A.n⟩
   rcases f1 z hz with ⟨y,hy,e⟩ | h1
   · rw[← e];exact A.a y hy
   · intro e
     rw[e] at h1
     cases hq:h0 c with
     | none=>exact hc hq
     | some o=>rw[H.fit.le c o hq] at h1;cases h1
theorem Sps.name (H:Sps h0 h b q x) (a:List UInt8) {s':bg} (o1:bJ k s' (bZ x.names++bZ [a]) NT 1) (n1:s'.n=q.n.n+1) (f1:∀ z,s'.a=some z→(∃ y,q.n.a=some y∧y.1=z.1)∨h z.1=none)
 (g1:∀ b o,(∀ x,q.n.a=some x→x.1≠b)→h b=some o→k b=some o):
 k b=some ⟨bz q x,ST⟩∧Sps h0 (k.set b ⟨bz { q with n:=s' } { x with names:=x.names++[a] },ST⟩) b { q with n:=s' } { x with names:=x.names++[a] }:=by
 have hkb:k b=some ⟨bz q x,ST⟩:=g1 b _ (own_ne H.w.n H.blk Dv) H.blk
 have o1':bJ k s' (bZ (x.names++[a])) NT 1:=by rw[lh];exact o1
 have hk2:∀ c o,c≠b→k c=some o→(k.set b ⟨bz { q with n:=s' } { x with names:=x.names++[a] },ST⟩) c=some o:=fun c o hc ho=>by rw[bi _ hc];exact ho
 have W:=H.w
 refine⟨hkb,ax _ _ _,⟨?_,W.i',?_,W.d',?_,W.e',?_,W.a',?_,?_,W.l,W.l'⟩,⟨fun c o hc=>?_,fun c hc=>?_⟩⟩
 · have:=dW W.i W.n TL g1
   exact cZ this fun z _ hz hc=>hk2 _ _ (own_ne this hkb qG z hz) hc
 · have:=dW W.d W.n TL g1
   exact cZ this fun z _ hz hc=>hk2 _ _ (own_ne this hkb qG z hz) hc
 · have:=dW W.e W.n Yc g1
   exact cZ this fun z _ hz hc=>hk2 _ _ (own_ne this hkb Iy z hz) hc
 · have:=dW W.a W.n (fun e=>oN e.symm) g1
   exact cZ this fun z _ hz hc=>hk2 _ _ (own_ne this hkb Gm z hz) hc
 · exact cZ o1' fun z _ hz hc=>hk2 _ _ (own_ne o1' hkb Dv z hz) hc
 · show s'.n=(x.names++[a]).length
   rw[n1,W.n'];simp
 · have A:=H.fit.apart c (by rw[hc];simp)
   exact hk2 _ _ A.b (g1 c o A.n (H.fit.le c o hc))
 · have A:=H.fit.apart c hc
   refine⟨A.b,A.a,fun z hz=>?_⟩
   rcases f1 z hz with ⟨y,hy,e⟩ | h1
   · rw[← e];exact A.n y hy
   · intro e
     rw[e] at h1
     cases hq:h0 c with
     | none=>exact hc hq
     | some o=>rw[H.fit.le c o hq] at h1;cases h1
theorem Sps.fresh (H:Sps h0 h b q x) {c:Nat} (hc:h c=none) (o:HO):Sps (h0.set c o) (h.set c o) b q x:=by
 have hcb:b≠c:=fun e=>by rw[← e,H.blk] at hc;cases hc
 refine⟨by rw[bi _ hcb];exact H.blk,H.w.le (dF hc o),⟨fun d u hd=>?_,fun d hd=>?_⟩⟩
 · by_cases e:d=c
   · subst e;rw[ax] at hd ⊢;exact hd
   · rw[bi _ e] at hd ⊢;exact H.fit.le d u hd
 · by_cases e:d=c
   · subst e
     refine⟨fun e=>hcb e.symm,fun z hz e=>?_,fun z hz e=>?_⟩
     · obtain⟨cs,h1⟩:=oV H.w.a hz
       rw[e,hc] at h1;cases h1
     · obtain⟨cs,h1⟩:=oV H.w.n hz
       rw[e,hc] at h1;cases h1
   · rw[bi _ e] at hd
     exact H.fit.apart d hd
theorem Sps.weak {h1:Hp} (H:Sps h1 h b q x) (hl:dm h0 h1):Sps h0 h b q x:=
 ⟨H.blk,H.w,fun c o hc=>H.fit.le c o (hl c o hc),fun c hc=>H.fit.apart c (fun e=>by
  cases hq:h0 c with
  | none=>exact hc hq
  | some o=>rw[hl c o hq] at e;cases e)⟩
end
def doneSpec (h0:Hp) (b:Nat) (r:Option gu) (φ:Value→Hp→Prop):Prop:=
 (∀ y,r=some y→∀ q k,Sps h0 k b q y→φ (.bool true) k)∧(r=none→∀ k,dm h0 k→φ (.bool false) k)
theorem Am {x:gu} {wd:List UInt8} {n:Int}:
 (wd=iH→single x wd n=some { x with fuel:=n })∧(wd=iI→single x wd n=some { x with heap:=n })∧(wd=fM→single x wd n=some { x with stack:=n })∧(wd=fK→single x wd n=some { x with every:=n })∧
 (wd=iJ→single x wd n=some { x with keep:=n })∧(wd=lG→single x wd n=some { x with hot:=n })∧(wd=oh→single x wd n=some { x with acts:=x.acts++[(n,0,3)],names:=x.names++[[]] })∧
 (wd≠iH→wd≠iI→wd≠fM→wd≠fK→wd≠iJ→wd≠lG→wd≠oh→single x wd n=none):=by
 refine⟨?_,?_,?_,?_,?_,?_,?_,?_⟩
 · rintro rfl;rfl
 · rintro rfl;rfl
 · rintro rfl;rfl
 · rintro rfl;rfl
 · rintro rfl;rfl
 · rintro rfl;rfl
 · rintro rfl;rfl
 · intro h1 h2 h3 h4 h5 h6 h7
   unfold single
   rw[if_neg h1,if_neg h2,if_neg h3,if_neg h4,if_neg h5,if_neg h6,if_neg h7]
set_option maxHeartbeats 4000000 in
def GY:Ct Tryz.prog where
 f:=39
 spec:=fun args h φ=>∃ h0 b q x wd n,args=[.pointer (some ⟨b,0,none⟩),.string (B wd),.int .i64 n]∧Sps h0 h b q x∧x.acts.length≤500000∧x.names.length≤500000∧doneSpec h0 b (single x wd n) φ
 ok:=by
  rintro args h φ w ⟨h0,b,q,x,wd,n,rfl,H,hla,hln,hφ,hψ⟩ hH
  refine dD Tryz.func39 Ij MC [] φ (ig) (eX) ⟨[n],[],[wd],[],[],[some (b,0)],h,dY⟩ ⟨rfl,rfl,rfl,rfl,rfl,rfl⟩ af ?_ w hH rfl
  generalize hE:(⟨aB _,_,_,_⟩:Env)=E
  have ep:E.post=φ:=by rw[← hE]
  clear hE
  unfold yJ
  obtain⟨y1,y2,y3,y4,y5,y6,y7,y8⟩:=Am (x:=x) (wd:=wd) (n:=n)
  by_cases e1:wd=iH
  · rw[ai,if_pos (by simp[go_sem];exact e1)]
    iterate 3 (rw[ae,ag];refine⟨by simp[go_sem],?_⟩)
    rw[ae,aC]
    refine⟨_,jr H.blk (Nat.le_of_ble_eq_true rfl) (by decide),?_⟩
    rw[ae,aj,ep]
    exact hφ _ (y1 e1) q _ (H.num (y:={ x with fuel:=n }) rfl rfl rfl rfl rfl rfl)
  rw[ai,if_neg (by simp[go_sem];exact e1)]
  by_cases e2:wd=iI
  · rw[ae,ai,if_pos (by simp[go_sem];exact e2)]
    iterate 3 (rw[ae,ag];refine⟨by simp[go_sem],?_⟩)
    rw[ae,aC]
    refine⟨_,jr H.blk (Nat.le_of_ble_eq_true rfl) (by decide),?_⟩
    rw[ae,aj,ep]
    exact hφ _ (y2 e2) q _ (H.num (y:={ x with heap:=n }) rfl rfl rfl rfl rfl rfl)
  rw[ae,ai,if_neg (by simp[go_sem];exact e2)]
  by_cases e3:wd=fM
  · rw[ae,ai,if_pos (by simp[go_sem];exact e3)]
    iterate 3 (rw[ae,ag];refine⟨by simp[go_sem],?_⟩)
    rw[ae,aC]
    refine⟨_,jr H.blk (Nat.le_of_ble_eq_true rfl) (by decide),?_⟩
    rw[ae,aj,ep]
    exact hφ _ (y3 e3) q _ (H.num (y:={ x with stack:=n }) rfl rfl rfl rfl rfl rfl)
  rw[ae,ai,if_neg (by simp[go_sem];exact e3)]
  by_cases e4:wd=fK
  · rw[ae,ai,if_pos (by simp[go_sem];exact e4)]
    iterate 3 (rw[ae,ag];refine⟨by simp[go_sem],?_⟩)
    rw[ae,aC]
    refine⟨_,jr H.blk (Nat.le_of_ble_eq_true rfl) (by decide),?_⟩
    rw[ae,aj,ep]
    exact hφ _ (y4 e4) q _ (H.num (y:={ x with every:=n }) rfl rfl rfl rfl rfl rfl)
  rw[ae,ai,if_neg (by simp[go_sem];exact e4)]
  by_cases e5:wd=iJ
  · rw[ae,ai,if_pos (by simp[go_sem];exact e5)]
    iterate 3 (rw[ae,ag];refine⟨by simp[go_sem],?_⟩)
    rw[ae,aC]
    refine⟨_,jr H.blk (Nat.le_of_ble_eq_true rfl) (by decide),?_⟩
    rw[ae,aj,ep]
    exact hφ _ (y5 e5) q _ (H.num (y:={ x with keep:=n }) rfl rfl rfl rfl rfl rfl)
  rw[ae,ai,if_neg (by simp[go_sem];exact e5)]
  by_cases e6:wd=lG
  · rw[ae,ai,if_pos (by simp[go_sem];exact e6)]
    iterate 3 (rw[ae,ag];refine⟨by simp[go_sem],?_⟩)
    rw[ae,aC]
    refine⟨_,jr H.blk (Nat.le_of_ble_eq_true rfl) (by decide),?_⟩
    rw[ae,aj,ep]
    exact hφ _ (y6 e6) q _ (H.num (y:={ x with hot:=n }) rfl rfl rfl rfl rfl rfl)
  rw[ae,ai,if_neg (by simp[go_sem];exact e6)]
  by_cases e7:wd=oh
  · rw[ae,ai,if_pos (by simp[go_sem];exact e7)]
    iterate 3 (rw[ae,ag];refine⟨by simp[go_sem],?_⟩)
    rw[ae,au,if_pos (by rfl)]
    refine (ah _ _).2 ⟨⟨[],[],[],[],[q.a],[]⟩,rfl,af,lM H.blk rfl,?_⟩
    rw[ae,di]
    intro b1 hb1
    have hb1:h b1=none:=hb1
    rw[ae]
    refine dV (h:=h) (sl:=q.a) (xs:=eP x.acts) (cs:=eP [(n,0,3)]) (b1:=b1) rfl rfl H.w.a (by simp[go_sem,eP]) hb1 rfl (jd _) (by have:=H.w.a';omega) (by decide) fun s' k1 o1 n1 f1 g1=>?_
    obtain⟨hkb,H1⟩:=H.act (n,0,3) o1 n1 f1 g1
    iterate 3 (rw[ae,ag];refine⟨by simp[go_sem],?_⟩)
    rw[ae,aC]
    refine⟨_,jr hkb (Nat.le_of_ble_eq_true rfl) (by decide),?_⟩
    have ek:k1.set b ⟨(bz q x).take 9++[s'.val]++(bz q x).drop (9+1),ST⟩=k1.set b ⟨bz { q with a:=s' } { x with acts:=x.acts++[(n,0,3)] },ST⟩:=rfl
    iterate 2 (rw[ae,ag];refine⟨by simp[go_sem],?_⟩)
    rw[ae,au,if_pos (by rfl)]
    refine (ah _ _).2 ⟨⟨[],[],[],[],[q.n],[]⟩,rfl,af,lM H1.blk rfl,?_⟩
    rw[ae,di]
    intro b2 hb2
    rw[ae]
    refine dV (h:=k1.set b ⟨bz { q with a:=s' } { x with acts:=x.acts++[(n,0,3)] },ST⟩) (sl:=q.n) (xs:=bZ x.names) (cs:=bZ [[]]) (b1:=b2) rfl rfl H1.w.n rfl hb2 rfl (gX _) (by have:=H.w.n';omega) (by decide) fun s2 k2 o2 n2 f2 g2=>?_
    obtain⟨hkb2,H2⟩:=H1.name [] o2 n2 f2 g2
    iterate 2 (rw[ae,ag];refine⟨by simp[go_sem],?_⟩)
    rw[ae,aC]
    refine⟨_,jr hkb2 (Nat.le_of_ble_eq_true rfl) (by decide),?_⟩
    rw[ae,aj,ep]
    exact hφ _ (y7 e7) _ _ H2
  rw[ae,ai,if_neg (by simp[go_sem];exact e7)]
  rw[ae,aj,ep]
  exact hψ (y8 e1 e2 e3 e4 e5 e6 e7) h H.fit.le
end Go.Proofs.YtgpanefhaiohnaaGreatDoor
