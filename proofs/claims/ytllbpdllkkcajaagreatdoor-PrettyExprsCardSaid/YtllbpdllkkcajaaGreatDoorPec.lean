/- hindcastlaw07: texts joined: EngF, EngG, EngU. -/
import Derived.Test.YtllbpdllkkcajaaGreatDoorPeb
namespace Go.Proofs.YtllbpdllkkcajaaGreatDoor
open Go.RowKit
structure uy (g h:kZ):Prop where
 i:g.i <+: h.i
 b:g.b <+: h.b
 s:g.s <+: h.s
 v:g.v <+: h.v
 l:g.l <+: h.l
 p:g.p <+: h.p
theorem uy.refl (g:kZ):uy g g:=⟨List.prefix_refl _,List.prefix_refl _,List.prefix_refl _,List.prefix_refl _,List.prefix_refl _,List.prefix_refl _⟩
theorem uy.trans {f g h:kZ} (p:uy f g) (q:uy g h):uy f h:=⟨p.i.trans q.i,p.b.trans q.b,p.s.trans q.s,p.v.trans q.v,p.l.trans q.l,p.p.trans q.p⟩
def iC (C0 C:Ctx) (g:kZ):Ctx:=(C0.push (g.den C)).heap C.h
theorem fM {α:Type} {l m t:List α} {x d:α} {j:Nat} (hj:l.length+m.length=j) (h:m++[x] <+: t):(l++t).getD j d=x:=by
 obtain⟨u,rfl⟩:=h;subst hj;simp
theorem lV {α β:Type} {f:α->β} {l m:List α} (h:l <+: m):l.map f <+: m.map f:=by
 obtain⟨t,rfl⟩:=h;rw[List.map_append];exact List.prefix_append _ _
section
variable {n:Cnt} {C0 C:Ctx} {ρ:Nat->Nat}
structure Base (n:Cnt) (C0 C:Ctx):Prop where
 ext:ExtL C0 C
 has:Has C0 n
theorem rF (C0 C:Ctx) (g:kZ):ExtL C0 (iC C0 C g):=((Ext.push C0 _).trans (Ext.heap _ _)).toExtL
theorem Base.Dh (h:Base n C0 C) (g:kZ):CY n (iC C0 C g) C:=by
 have h1:=(rF C0 C g).Dh h.has;have h2:=h.ext.Dh h.has;exact⟨fun k hk=>(h1.i k hk).symm.trans (h2.i k hk),fun k hk=>(h1.b k hk).symm.trans (h2.b k hk),fun k hk=>(h1.s k hk).symm.trans (h2.s k hk),fun k hk=>(h1.v k hk).symm.trans (h2.v k hk),fun k hk=>(h1.l k hk).symm.trans (h2.l k hk),fun k hk=>(h1.p k hk).symm.trans (h2.p k hk)⟩
theorem tH (hB:Base n C0 C) {g g':kZ} {c e:CE} (h:D6 n g c e=some g'):uy g g'/\∀ G,uy g' G->(∀ x∈G.v,x.plain=true)->c.den (iC C0 C G) ρ=e.den C ρ:=by
 unfold D6 at h;split at h
 . rename_i k j k' e;split at h
   . rename_i hj;obtain⟨hj,rfl⟩:=hj;cases h;refine⟨⟨List.prefix_append _ _,List.prefix_refl _,List.prefix_refl _,List.prefix_refl _,List.prefix_refl _,List.prefix_refl _⟩,fun G hG _=>?_⟩;show Value.int k ((C0.i++G.i.map (IE.den C)).getD j 0)=_;rw[fM (m:=g.i.map (IE.den C)) (x:=e.den C) (by rw[List.length_map,hB.has.i];exact hj) (by have:=lV (f:=IE.den C) hG.i;simpa using this)];rfl
   . split at h
     . rename_i hq;obtain⟨rfl,rfl,hlt⟩:=hq;cases h;refine⟨uy.refl _,fun G _ _=>?_⟩;show Value.int k ((iC C0 C G).i.getD j 0)=Value.int k (C.i.getD j 0);rw[(hB.Dh G).i j hlt]
     . cases h
 . rename_i j e;split at h
   . rename_i hj;cases h;refine⟨⟨List.prefix_refl _,List.prefix_append _ _,List.prefix_refl _,List.prefix_refl _,List.prefix_refl _,List.prefix_refl _⟩,fun G hG _=>?_⟩;show Value.bool ((C0.b++G.b.map (BE.den C)).getD j false)=_;rw[fM (m:=g.b.map (BE.den C)) (x:=e.den C) (by rw[List.length_map,hB.has.b];exact hj) (by have:=lV (f:=BE.den C) hG.b;simpa using this)];rfl
   . split at h
     . rename_i hq;obtain⟨rfl,hlt⟩:=hq;cases h;refine⟨uy.refl _,fun G _ _=>?_⟩;show Value.bool ((iC C0 C G).b.getD j false)=Value.bool (C.b.getD j false);rw[(hB.Dh G).b j hlt]
     . cases h
 . rename_i j e;split at h
   . rename_i hj;cases h;refine⟨⟨List.prefix_refl _,List.prefix_refl _,List.prefix_append _ _,List.prefix_refl _,List.prefix_refl _,List.prefix_refl _⟩,fun G hG _=>?_⟩;show Value.string (B ((C0.s++G.s.map (SE.den C)).getD j []))=_;rw[fM (m:=g.s.map (SE.den C)) (x:=e.den C) (by rw[List.length_map,hB.has.s];exact hj) (by have:=lV (f:=SE.den C) hG.s;simpa using this)];rfl
   . split at h
     . rename_i hq;obtain⟨rfl,hlt⟩:=hq;cases h;refine⟨uy.refl _,fun G _ _=>?_⟩;show Value.string (B ((iC C0 C G).s.getD j []))=Value.string (B (C.s.getD j []));rw[(hB.Dh G).s j hlt]
     . cases h
 . rename_i j i;split at h
   . rename_i hj;cases h;refine⟨⟨List.prefix_refl _,List.prefix_refl _,List.prefix_refl _,List.prefix_append _ _,List.prefix_refl _,List.prefix_refl _⟩,fun G hG _=>?_⟩;show (C0.v++G.v.map (CE.den C bg)).getD j undef=_;rw[fM (m:=g.v.map (CE.den C bg)) (x:=(CE.v i).den C bg) (by rw[List.length_map,hB.has.v];exact hj) (by have:=lV (f:=CE.den C bg) hG.v;simpa using this)];rfl
   . split at h
     . rename_i hq;obtain⟨rfl,hlt⟩:=hq;cases h;exact⟨uy.refl _,fun G _ _=>(hB.Dh G).v j hlt⟩
     . cases h
 . rename_i j x;split at h
   . rename_i hj;cases h;refine⟨⟨List.prefix_refl _,List.prefix_refl _,List.prefix_refl _,List.prefix_append _ _,List.prefix_refl _,List.prefix_refl _⟩,fun G hG _=>?_⟩;show (C0.v++G.v.map (CE.den C bg)).getD j undef=_;rw[fM (m:=g.v.map (CE.den C bg)) (x:=(CE.c x).den C bg) (by rw[List.length_map,hB.has.v];exact hj) (by have:=lV (f:=CE.den C bg) hG.v;simpa using this)];rfl
   . cases h
 . rename_i j e;split at h
   . rename_i hj;cases h;refine⟨⟨List.prefix_refl _,List.prefix_refl _,List.prefix_refl _,List.prefix_refl _,List.prefix_append _ _,List.prefix_refl _⟩,fun G hG _=>?_⟩;show ((C0.l++G.l.map (LE.den C)).getD j ⟨none,0,0⟩).val=_;rw[fM (m:=g.l.map (LE.den C)) (x:=e.den C) (by rw[List.length_map,hB.has.l];exact hj) (by have:=lV (f:=LE.den C) hG.l;simpa using this)];rfl
   . split at h
     . rename_i hq;obtain⟨rfl,hlt⟩:=hq;cases h;refine⟨uy.refl _,fun G _ _=>?_⟩;show ((iC C0 C G).l.getD j ⟨none,0,0⟩).val=(C.l.getD j ⟨none,0,0⟩).val;rw[(hB.Dh G).l j hlt]
     . cases h
 . rename_i j i;split at h
   . rename_i hj;cases h;refine⟨⟨List.prefix_refl _,List.prefix_refl _,List.prefix_refl _,List.prefix_refl _,List.prefix_refl _,List.prefix_append _ _⟩,fun G hG _=>?_⟩;show Value.pointer (((C0.p++G.p.map fun c=>qX (c.den C bg)).getD j none).map fun x=>⟨x.1,x.2,none⟩)=_;rw[fM (m:=g.p.map fun c=>qX (c.den C bg)) (x:=qX ((CE.pt i).den C bg)) (by rw[List.length_map,hB.has.p];exact hj) (by have:=lV (f:=fun c:CE=>qX (c.den C bg)) hG.p;simpa using this)];show Value.pointer ((qX (Value.pointer ((C.p.getD i none).map fun x=>⟨x.1,x.2,none⟩))).map fun x=>(⟨x.1,x.2,none⟩:Addr))=Value.pointer ((C.p.getD i none).map fun x=>⟨x.1,x.2,none⟩);cases C.p.getD i none<;>rfl
   . split at h
     . rename_i hq;obtain⟨rfl,hlt⟩:=hq;cases h;refine⟨uy.refl _,fun G _ _=>?_⟩;show Value.pointer (((iC C0 C G).p.getD j none).map fun x=>⟨x.1,x.2,none⟩)=Value.pointer ((C.p.getD j none).map fun x=>⟨x.1,x.2,none⟩);rw[(hB.Dh G).p j hlt]
     . cases h
 . rename_i j;split at h
   . rename_i hj;cases h;refine⟨⟨List.prefix_refl _,List.prefix_refl _,List.prefix_refl _,List.prefix_refl _,List.prefix_refl _,List.prefix_append _ _⟩,fun G hG _=>?_⟩;show Value.pointer (((C0.p++G.p.map fun c=>qX (c.den C bg)).getD j none).map fun x=>⟨x.1,x.2,none⟩)=_;rw[fM (m:=g.p.map fun c=>qX (c.den C bg)) (x:=qX ((CE.c .nilp).den C bg)) (by rw[List.length_map,hB.has.p];exact hj) (by have:=lV (f:=fun c:CE=>qX (c.den C bg)) hG.p;simpa using this)];rfl
   . cases h
 . split at h
   . rename_i hq;obtain⟨rfl,hb⟩:=hq;cases h;exact⟨uy.refl _,fun G _ _=>c.aH (hB.Dh G) ρ hb⟩
   . cases h
theorem tJ (hB:Base n C0 C):∀ {cs es:List CE} {g g':kZ},yO n g cs es=some g'->uy g g'/\∀ G,uy g' G->(∀ x∈G.v,x.plain=true)->cs.map (CE.den (iC C0 C G) ρ)=es.map (CE.den C ρ):=by
 intro cs
 induction cs with
 | nil=>
   intro es g g' h;cases es with
   | nil=>cases h;exact⟨uy.refl _,fun _ _ _=>rfl⟩
   | cons _ _=>cases h
 | cons c cs ih=>
   intro es g g' h;cases es with
   | nil=>cases h
   | cons e es=>
     simp only[yO,Option.bind_eq_some_iff] at h;obtain⟨g1,h1,h2⟩:=h;obtain⟨a1,b1⟩:=tH (ρ:=ρ) hB h1;obtain⟨a2,b2⟩:=ih h2;exact⟨a1.trans a2,fun G hG hp=>by rw[List.map_cons,List.map_cons,b1 G (a2.trans hG) hp,b2 G hG hp]⟩
theorem Eb (hB:Base n C0 C) {g g':kZ} {c e:VE} (h:KE n g c e=some g'):uy g g'/\∀ G,uy g' G->(∀ x∈G.v,x.plain=true)->∀ (t u:Array Value) x,e.holds C ρ t x->c.holds (iC C0 C G) ρ u x:=by
 unfold KE at h;split at h
 . cases h;exact⟨uy.refl _,fun _ _ _ _ _ _ _=>trivial⟩
 . obtain⟨h1,h2⟩:=tH (ρ:=ρ) hB h;exact⟨h1,fun G hG hp t u x hx=>by show _=_;rw[show PE.den (iC C0 C G) ρ (.one _)=_ from h2 G hG hp];exact hx⟩
 . obtain⟨h1,h2⟩:=tJ (ρ:=ρ) hB h;exact⟨h1,fun G hG hp t u x hx=>by show _=Value.agg _;rw[h2 G hG hp];exact hx⟩
 . cases h
theorem Ea (hB:Base n C0 C):∀ {cs es:List VE} {g g':kZ},D9 n g cs es=some g'->uy g g'/\cs.length=es.length/\∀ G,uy g' G->(∀ x∈G.v,x.plain=true)->∀ (t u:Array Value) (i:Nat) c,cs[i]? = some c->∃ e,es[i]? = some e/\∀ x,e.holds C ρ t x->c.holds (iC C0 C G) ρ u x:=by
 intro cs
 induction cs with
 | nil=>
   intro es g g' h;cases es with
   | nil=>cases h;exact⟨uy.refl _,rfl,fun _ _ _ _ _ _ _ h=>by simp at h⟩
   | cons _ _=>cases h
 | cons c cs ih=>
   intro es g g' h;cases es with
   | nil=>cases h
   | cons e es=>
     simp only[D9,Option.bind_eq_some_iff] at h;obtain⟨g1,h1,h2⟩:=h;obtain⟨a1,b1⟩:=Eb (ρ:=ρ) hB h1;obtain⟨a2,l2,b2⟩:=ih h2;refine⟨a1.trans a2,by simp[l2],fun G hG hp t u i d hd=>?_⟩;cases i with
     | zero=>
       simp at hd;subst hd;exact⟨e,rfl,fun x hx=>b1 G (a2.trans hG) hp t u x hx⟩
     | succ i=>exact b2 G hG hp t u i d (by simpa using hd)
theorem D8 (hB:Base n C0 C):∀ {cs es:List oO} {g g':kZ},D7 n g cs es=some g'->uy g g'/\cs.length<=es.length/\∀ G,uy g' G->(∀ x∈G.v,x.plain=true)->∀ (k:Nat) c,cs[k]? = some c->∃ e,es[k]? = some e/\c.ty=e.ty/\c.cells.map (CE.den (iC C0 C G) ρ)=e.cells.map (CE.den C ρ):=by
 intro cs
 induction cs with
 | nil=>intro es g g' h;cases h;exact⟨uy.refl _,Nat.zero_le _,fun _ _ _ _ _ h=>by simp at h⟩
 | cons c cs ih=>
   intro es g g' h;cases es with
   | nil=>cases h
   | cons e es=>
     simp only[D7] at h;split at h
     . rename_i hty;simp only[Option.bind_eq_some_iff] at h;obtain⟨g1,h1,h2⟩:=h;obtain⟨a1,b1⟩:=tJ (ρ:=ρ) hB h1;obtain⟨a2,l2,b2⟩:=ih h2;refine⟨a1.trans a2,by simp;exact l2,fun G hG hp k d hd=>?_⟩;cases k with
       | zero=>
         simp at hd;subst hd;exact⟨e,rfl,hty,b1 G (a2.trans hG) hp⟩
       | succ k=>exact b2 G hG hp k d (by simpa using hd)
     . cases h
end
section
variable {P:Program} {E:Env} {B:Nat} {h0:Hp} {w0:World} {ρ:Nat->Nat} {st:St} {C:Ctx} {a:Act} {w:World}
theorem PQ {g:kZ} {st:St} (R:Rep B h0 w0 ρ st C a w) (hf:g.fits st.n=true):(∀ x∈g.v,x.plain=true)/\eG (g.v.map (CE.den C bg)):=by
 unfold kZ.fits at hf;have h:=List.all_eq_true.1 hf;refine⟨fun x hx=>?_,fun u hu=>?_⟩
 . have:=h x hx;simp only[Bool.and_eq_true] at this;exact this.1
 . obtain⟨c,hc,rfl⟩:=List.mem_map.1 hu;have:=h c hc;simp only[CE.sto,Bool.and_eq_true,decide_eq_true_eq,Bool.not_eq_true'] at this;exact Dq R.ones bg c st.n R.cv.symm this.2.1.1 this.2.1.2 this.2.2
theorem kZ.XD (g:kZ) (C:Ctx):(g.den C).cnt=g.cnt:=by simp[kZ.den,kZ.cnt,Inc.cnt]
theorem BX {C0:Ctx} {n:Cnt} {hd st:St} {g:kZ} (R:Rep B h0 w0 ρ st C a w) (hB:Base n C0 C) (ho0:eG C0.v) (h:xq n hd st=some g) (hf:g.fits st.n=true) (hn:hd.n=n.add g.cnt):Rep B h0 w0 ρ hd (iC C0 C g) a w:=by
 unfold xq at h;simp only[Option.bind_eq_some_iff] at h;obtain⟨g1,h1,h2⟩:=h;obtain⟨a1,l1,b1⟩:=Ea (ρ:=ρ) hB h1;obtain⟨a2,l2,b2⟩:=D8 (ρ:=ρ) hB h2;obtain⟨hp,hones⟩:=PQ R hf;have H:Has (iC C0 C g) hd.n:=(hB.has.push (by rw[kZ.XD];exact hn.symm)).heap _;refine⟨R.defers,by rw[R.size,l1],?_,?_,fun k hk=>R.fresh k (by omega),fun k j hk hj=>R.inj k j (by omega) (by omega),fun k hk=>R.free k (by omega),R.holds,R.fr,R.base,H.i,H.b,H.s,H.v,H.l,H.p,ik ho0 hones⟩
 . intro i v hv;obtain⟨e,he,hh⟩:=b1 g a2 hp a.tmps a.tmps i v hv;exact hh _ (R.slots i e he)
 . intro k b hb;obtain⟨e,he,hty,hc⟩:=b2 g (uy.refl _) hp k b hb;rw[R.blocks k e he,hty,hc]
def After (E:Env) (B:Nat) (h0:Hp) (w0:World) (l:Nat) (C0:Ctx) (K:Exit->St->Fm) (e:Exit) (a:Act) (w:World):Prop:=
 ∃ ρ st D,ExtL C0 D/\(∀ k,k<l->D.m k=C0.m k)/\Rep B h0 w0 ρ st D a w/\(K e st).says E D
theorem After.ext {l l':Nat} {C0 D:Ctx} {K:Exit->St->Fm} {e:Exit} (hx:ExtL C0 D) (hl:l<=l') (hm:∀ k,k<l->D.m k=C0.m k) (h:After E B h0 w0 l' D K e a w):After E B h0 w0 l C0 K e a w:=by
 obtain⟨ρ,st,F,h1,h2,h3,h4⟩:=h;exact⟨ρ,st,F,hx.trans h1,fun k hk=>(h2 k (by omega)).trans (hm k hk),h3,h4⟩
theorem XC {C D:Ctx} {n:Cnt} (hx:ExtL C D) (H:Has C n):D.cut n=⟨C.i,C.b,C.s,C.v,C.l,C.p,D.h,D.m⟩:=by
 obtain⟨⟨t1,h1⟩,⟨t2,h2⟩,⟨t3,h3⟩,⟨t4,h4⟩,⟨t5,h5⟩,⟨t6,h6⟩⟩:=hx;obtain⟨a1,a2,a3,a4,a5,a6⟩:=H;cases C;cases D;simp only at h1 h2 h3 h4 h5 h6 a1 a2 a3 a4 a5 a6;subst h1 h2 h3 h4 h5 h6;simp[Ctx.cut,<- a1,<- a2,<- a3,<- a4,<- a5,<- a6]
theorem Ue {C D:Ctx} {n m k:Cnt} (hx:ExtL C D) (H:Has C n) (K:Has D m) (hm:m=n.add k) (ho:eG D.v):∃ x:Inc,Same ((C.push x).heap D.h) D/\x.cnt=k/\eG x.v:=by
 obtain⟨⟨t1,h1⟩,⟨t2,h2⟩,⟨t3,h3⟩,⟨t4,h4⟩,⟨t5,h5⟩,⟨t6,h6⟩⟩:=hx;obtain⟨a1,a2,a3,a4,a5,a6⟩:=H;obtain⟨b1,b2,b3,b4,b5,b6⟩:=K;subst hm;cases C;cases D;simp only at h1 h2 h3 h4 h5 h6 a1 a2 a3 a4 a5 a6;subst h1 h2 h3 h4 h5 h6;simp only[List.length_append,Cnt.add] at b1 b2 b3 b4 b5 b6;refine⟨⟨t1,t2,t3,t4,t5,t6⟩,⟨rfl,rfl,rfl,rfl,rfl,rfl⟩,?_,fun u hu=>ho u (List.mem_append_right _ hu)⟩;cases k;simp only[Inc.cnt,Cnt.mk.injEq];simp only at b1 b2 b3 b4 b5 b6;omega
def SH (P:Program):Code->(Exit->Act->World->Prop)->Act->World->Prop
 | .seq x y,Q,a,w=>match wG x with
   | some _=>SH P x (Exit.then (y.wp P Q) Q) a w
   | none=>SH P y Q a w
 | .label _,Q,a,w=>Q .normal a w
 | _,_,_,_=>False
theorem Sr {Q Q':Exit->Act->World->Prop} {K K':Act->World->Prop} (hq:∀ e a w,Q e a w->Q' e a w) (hk:∀ a w,K a w->K' a w):∀ e a w,Exit.then K Q e a w->Exit.then K' Q' e a w:=by
 intro e a w h;cases e with
 | normal=>exact hk a w h
 | exit id=>exact hq _ a w h
 | goto l=>exact hq _ a w h
 | ret=>exact hq _ a w h
 | panic ch=>exact hq _ a w h
 | outgrown=>exact hq _ a w h
theorem uu (c:Code):∀ {Q Q':Exit->Act->World->Prop} {a:Act} {w:World},SH P c Q a w->(∀ e a w,Q e a w->Q' e a w)->SH P c Q' a w:=by
 induction c with
 | seq x y ihx ihy=>
   intro Q Q' a w h hq;rw[SH] at h⊢;split at h
   . exact ihx h (Sr hq (fun a w h=>wp_mono h hq))
   . exact ihy h hq
 | label l=>intro Q Q' a w h hq;exact hq _ a w h
 | _=>intro Q Q' a w h hq;exact h.elim
theorem BK (c:Code):∀ {l:Nat},wG c=some l->∃ rest,findLabel c l=some rest:=by
 induction c with
 | seq x y ihx ihy=>
   intro l h;rw[wG] at h;split at h
   . rename_i l' hx;cases h;obtain⟨r,hr⟩:=ihx hx;exact⟨_,by rw[findLabel,hr]⟩
   . rename_i hx;obtain⟨r,hr⟩:=ihy h;rw[findLabel];cases hq:findLabel x l with
     | some r'=>exact⟨_,rfl⟩
     | none=>exact⟨r,hr⟩
 | label m=>intro l h;cases h;exact⟨.skip,by simp[findLabel]⟩
 | _=>intro l h;cases h
theorem PP (c:Code):∀ {l:Nat},wG c=none->findLabel c l=none:=by
 induction c with
 | seq x y ihx ihy=>
   intro l h;rw[wG] at h;split at h
   . cases h
   . rename_i hx;rw[findLabel,ihx hx];exact ihy h
 | label m=>intro l h;cases h
 | _=>intro l h;rfl
theorem Xl (c:Code):∀ {Q:Exit->Act->World->Prop} {a:Act} {w:World} {l:Nat} {rest:Code},SH P c Q a w->wG c=some l->findLabel c l=some rest->rest.wp P Q a w:=by
 induction c with
 | seq x y ihx ihy=>
   intro Q a w l rest h hl hf;rw[SH] at h;rw[wG] at hl;rw[findLabel] at hf;split at h
   . rename_i l' hx;rw[hx] at hl;cases hl;obtain⟨r,hr⟩:=BK x hx;rw[hr] at hf;cases hf;exact wp_seq (ihx h hx hr)
   . rename_i hx;rw[hx] at hl;rw[PP x hx] at hf;exact ihy h hl hf
 | label m=>
   intro Q a w l rest h hl hf;cases hl;simp[findLabel] at hf;subst hf;exact wp_skip h
 | _=>intro Q a w l rest h;exact h.elim
theorem vz {C0:Ctx} {st0:St} {A:bG} {l:Nat} {D D':Ctx} {st':St} (H0:Has C0 st0.n) (ho0:eG C0.v) (hx:ExtL C0 D) (hx':ExtL D D') (R':Rep B h0 w0 ρ st' D' a w)
 (hm:D'.m l=E.meas l D.bare) (hs:(xG l st0.n (ji A st0) st').says E D'):
 ∃ F,ExtL C0 F/\F.m=C0.m/\Rep B h0 w0 ρ (ji A st0) F a w/\E.inv l F.bare/\E.meas l F.bare<E.meas l D.bare:=by
 unfold xG at hs;split at hs
 . rename_i g' hg';split at hs
   . exact hs.elim
   . rename_i hck';simp only[Bool.not_eq_true,Bool.not_eq_false',Bool.and_eq_true,decide_eq_true_eq] at hck';obtain⟨hinv',hmeas⟩:=hs;have e1:=XC (hx.trans hx') H0;have hB':Base st0.n C0 D':=⟨hx.trans hx',H0⟩;have R2:=BX R' hB' ho0 hg' hck'.1 hck'.2;have e2:((D'.cut st0.n).push (g'.den D')).bare=(iC C0 D' g').bare:=by rw[e1];rfl
     rw[e2] at hinv' hmeas;exact⟨_,rF _ _ _,rfl,R2,hinv',by rw[<- hm];exact hmeas⟩
 . exact hs.elim
theorem yK {A:bG} {l:Nat} {F:St->Fm} (R:Rep B h0 w0 ρ st C a w) (hs:(N9 l A st F).says E C):
 ∃ D,ExtL C D/\D.m=C.m/\Rep B h0 w0 ρ (ji A st) D a w/\E.inv l D.bare/\∀ ρ D a w,ExtL C D->D.m=C.m->Rep B h0 w0 ρ (ji A st) D a w->E.inv l D.bare->(F (ji A st)).says E (D.mark l (E.meas l D.bare)):=by
 unfold N9 at hs;split at hs
 . rename_i g hg;split at hs
   . exact hs.elim
   . rename_i hck;simp only[Bool.not_eq_true,Bool.not_eq_false',Bool.and_eq_true,decide_eq_true_eq] at hck;obtain⟨hfit,hn⟩:=hck;obtain⟨hinv,hall⟩:=hs;have hB:Base st.n C C:=⟨ExtL.refl C,R.has⟩;have R1:=BX R hB R.ones hg hfit hn;refine⟨_,rF _ _ _,rfl,R1,hinv,fun ρ D a w hx hm RD hi=>?_⟩;rw[xH] at hall;obtain⟨x,hDe,hxc,hxo⟩:=Ue hx R.has RD.has hn RD.ones;have e:(C.push x).heap D.h=D:=by
      obtain⟨e1,e2,e3,e4,e5,e6⟩:=hDe;cases D;simp only[Ctx.push,Ctx.heap] at e1 e2 e3 e4 e5 e6 hm⊢;subst hm;simp only[e1,e2,e3,e4,e5,e6]
     have:=hall x hxc hxo D.h;rw[e] at this;exact this hi
 . exact hs.elim
theorem yN (C:Ctx) {l n k:Nat} (h:k≠l):(C.mark l n).m k=C.m k:=by simp[Ctx.mark,h]
theorem Og (C:Ctx) (l n:Nat):(C.mark l n).m l=n:=by simp[Ctx.mark]
theorem Rep.mark (R:Rep B h0 w0 ρ st C a w) (l n:Nat):Rep B h0 w0 ρ st (C.mark l n) a w:=R.same ⟨rfl,rfl,rfl,rfl,rfl,rfl⟩ rfl
theorem ExtL.mark (C:Ctx) (l n:Nat):ExtL C (C.mark l n):=⟨List.prefix_refl _,List.prefix_refl _,List.prefix_refl _,List.prefix_refl _,List.prefix_refl _,List.prefix_refl _⟩
theorem zS {Q:Exit->Act->World->Prop} {c rest:Code} (l:Nat) (I:Nat->Act->World->Prop) (hf:findLabel c l=some rest)
 (first:c.wp P (Exit.jump l (fun a w=>∃ n,I n a w) Q) a w)
 (pass:∀ n a w,I n a w->rest.wp P (Exit.jump l (fun a' w'=>∃ n',n'<n/\I n' a' w') Q) a w):(Code.scope c).wp P Q a w:=by
 refine wp_scope_jumps l (fun a w=>∃ n,I n a w) (fun a w=>leastOf (fun n=>I n a w)) hf first ?_
 intro a w hI;refine wp_mono (pass _ a w (leastOf_spec hI).1) ?_;intro e a' w' hq;cases e with
 | goto j=>
   obtain⟨hj,n',hlt,hI'⟩:=hq;exact⟨hj,⟨n',hI'⟩,Nat.lt_of_le_of_lt ((leastOf_spec ⟨n',hI'⟩).2 n' hI') hlt⟩
 | normal=>exact hq
 | exit id=>exact hq
 | ret=>exact hq
 | panic ch=>exact hq
 | outgrown=>exact hq
theorem JU (hE:Good P E) (nw:iY) (A:Nat->bG) (c:Code):
 (∀ (l:Nat) (st:St) (K:Exit->St->Fm) (ρ:Nat->Nat) (C:Ctx) (a:Act) (w:World),Rep B h0 w0 ρ st C a w->(gen nw P A c l st K).says E C->c.wp P (After E B h0 w0 l C K) a w)/\
 (∀ (l:Nat) (st:St) (K:Exit->St->Fm) (ρ:Nat->Nat) (C:Ctx) (a:Act) (w:World) (Q:Exit->Act->World->Prop),Rep B h0 w0 ρ st C a w->(Ut nw P A c l st K).says E C->
  (∀ ρ st D a w,ExtL C D->(∀ k,k<l->D.m k=C.m k)->Rep B h0 w0 ρ st D a w->(K .normal st).says E D->SH P c Q a w)->
  (∀ e,e≠.normal->∀ ρ st D a w,ExtL C D->(∀ k,k<l->D.m k=C.m k)->Rep B h0 w0 ρ st D a w->(K e st).says E D->Q e a w)->c.wp P Q a w)/\
 (∀ (l:Nat) (st:St) (K:Exit->St->Fm) (ρ:Nat->Nat) (C:Ctx) (a:Act) (w:World),Rep B h0 w0 ρ st C a w->(PV nw P A c l st K).says E C->SH P c (After E B h0 w0 l C K) a w):=by
 induction c with
 | skip=>exact⟨fun l st K ρ C a w R hs=>wp_skip ⟨ρ,st,C,ExtL.refl C,fun _ _=>rfl,R,hs⟩,fun l st K ρ C a w Q R hs=>(hs:False).elim,fun l st K ρ C a w R hs=>(hs:False).elim⟩
 | region id ops draw=>
   refine⟨?_,fun l st K ρ C a w Q R hs=>(hs:False).elim,fun l st K ρ C a w R hs=>(hs:False).elim⟩;intro l st K ρ C a w R hs;cases draw with
   | true=>
     simp only[gen] at hs;split at hs
     . rename_i hm;exact FX hm hE R hs fun ρ st D a w hx R hs=>⟨ρ,st,D,hx.toExtL,fun _ _=>by rw[hx.m],R,hs⟩
     . exact (hs:False).elim
   | false=>
     refine wp_region_list ?_;simp only[gen] at hs;exact DV hE R hs fun ρ st D a w hx R hs=>⟨ρ,st,D,hx.toExtL,fun _ _=>by rw[hx.m],R,hs⟩
 | seq x y ihx ihy=>
   have hgen:∀ (l:Nat) (st:St) (K:Exit->St->Fm) (ρ:Nat->Nat) (C:Ctx) (a:Act) (w:World),Rep B h0 w0 ρ st C a w->(gen nw P A (.seq x y) l st K).says E C->(Code.seq x y).wp P (After E B h0 w0 l C K) a w:=by
    intro l st K ρ C a w R hs;rw[gen] at hs;refine wp_seq ?_;refine wp_mono (ihx.1 l st _ ρ C a w R hs) ?_;rintro e a w ⟨ρ,st,D,hx,hm,R,hs⟩;cases e with
    | normal=>exact wp_mono (ihy.1 _ st K ρ D a w R hs) fun e a w h=>h.ext hx (by omega) hm
    | exit id=>exact⟨ρ,st,D,hx,hm,R,hs⟩
    | goto l=>exact⟨ρ,st,D,hx,hm,R,hs⟩
    | ret=>exact⟨ρ,st,D,hx,hm,R,hs⟩
    | panic ch=>exact⟨ρ,st,D,hx,hm,R,hs⟩
    | outgrown=>exact⟨ρ,st,D,hx,hm,R,hs⟩
   refine⟨hgen,?_,?_⟩
   . intro l st K ρ C a w Q R hs hn ho;rw[Ut] at hs;refine wp_seq ?_;split at hs
     . rename_i l' hl;refine ihx.2.1 l st K ρ C a w _ R hs (fun ρ st D a w hx hm R hs=>?_) (fun e he ρ st D a w hx hm R hs=>?_)
       . have:=hn ρ st D a w hx hm R hs;rw[SH,hl] at this;exact this
       . have:=ho e he ρ st D a w hx hm R hs;cases e with
         | normal=>exact absurd rfl he
         | exit id=>exact this
         | goto l=>exact this
         | ret=>exact this
         | panic ch=>exact this
         | outgrown=>exact this
     . rename_i hl;refine wp_mono (ihx.1 l st _ ρ C a w R hs) ?_;rintro e a w ⟨ρ,st,D,hx,hm,R,hs⟩;cases e with
       | normal=>
         refine ihy.2.1 _ st K ρ D a w Q R hs (fun ρ st F a w hx2 hm2 R hs=>?_) (fun e he ρ st F a w hx2 hm2 R hs=>ho e he ρ st F a w (hx.trans hx2) (fun k hk=>(hm2 k (by omega)).trans (hm k hk)) R hs);have:=hn ρ st F a w (hx.trans hx2) (fun k hk=>(hm2 k (by omega)).trans (hm k hk)) R hs;rw[SH,hl] at this;exact this
       | exit id=>exact ho _ (by simp) ρ st D a w hx hm R hs
       | goto l=>exact ho _ (by simp) ρ st D a w hx hm R hs
       | ret=>exact ho _ (by simp) ρ st D a w hx hm R hs
       | panic ch=>exact ho _ (by simp) ρ st D a w hx hm R hs
       | outgrown=>exact ho _ (by simp) ρ st D a w hx hm R hs
   . intro l st K ρ C a w R hs;rw[PV] at hs;rw[SH];split at hs
     . rename_i l' hl;rw[hl];refine uu x (ihx.2.2 l st _ ρ C a w R hs) ?_;rintro e a w ⟨ρ,st,D,hx,hm,R,hs⟩;cases e with
       | normal=>exact wp_mono (ihy.1 _ st K ρ D a w R hs) fun e a w h=>h.ext hx (by omega) hm
       | exit id=>exact⟨ρ,st,D,hx,hm,R,hs⟩
       | goto l=>exact⟨ρ,st,D,hx,hm,R,hs⟩
       | ret=>exact⟨ρ,st,D,hx,hm,R,hs⟩
       | panic ch=>exact⟨ρ,st,D,hx,hm,R,hs⟩
       | outgrown=>exact⟨ρ,st,D,hx,hm,R,hs⟩
     . rename_i hl;rw[hl];exact uu y (ihy.2.2 _ st K ρ C a w R hs) fun e a w h=>h.ext (ExtL.refl C) (by omega) (fun _ _=>rfl)
 | cond c x y ihx ihy=>
   refine⟨?_,fun l st K ρ C a w Q R hs=>(hs:False).elim,fun l st K ρ C a w R hs=>(hs:False).elim⟩;intro l st K ρ C a w R hs;simp only[gen] at hs;split at hs
   . rename_i hc;have:=aK R (aN _) hc;exact wp_cond_true this (ihx.1 l st K ρ C a w R hs)
   . rename_i hc;have:=aK R (aN _) hc;exact wp_cond_false this (wp_mono (ihy.1 _ st K ρ C a w R hs) fun e a w h=>h.ext (ExtL.refl C) (by omega) (fun _ _=>rfl))
   . rename_i e h1 h2 hc;have:=aK R (aN _) hc;exact wp_cond_split this (fun ht=>ihx.1 l _ K ρ C a w (CJ R hc ht) (hs.1 ht)) (fun hf=>wp_mono (ihy.1 _ _ K ρ C a w (CJ R hc hf) (hs.2 hf)) fun e a w h=>h.ext (ExtL.refl C) (by omega) (fun _ _=>rfl))
   . exact hs.elim
 | block id c ih=>
   refine⟨?_,fun l st K ρ C a w Q R hs=>(hs:False).elim,fun l st K ρ C a w R hs=>(hs:False).elim⟩;intro l st K ρ C a w R hs;rw[gen] at hs;refine wp_block ?_;refine wp_mono (ih.1 l st _ ρ C a w R hs) ?_;rintro e a w ⟨ρ,st,D,hx,hm,R,hs⟩;cases e with
   | exit j=>
     simp only[Exit.inBlock];simp only at hs;split at hs
     . rename_i h;rw[if_pos h];exact⟨ρ,st,D,hx,hm,R,hs⟩
     . rename_i h;rw[if_neg h];exact⟨ρ,st,D,hx,hm,R,hs⟩
   | normal=>exact⟨ρ,st,D,hx,hm,R,hs⟩
   | goto l=>exact⟨ρ,st,D,hx,hm,R,hs⟩
   | ret=>exact⟨ρ,st,D,hx,hm,R,hs⟩
   | panic ch=>exact⟨ρ,st,D,hx,hm,R,hs⟩
   | outgrown=>exact⟨ρ,st,D,hx,hm,R,hs⟩
 | loop c ih=>
   refine⟨?_,fun l st K ρ C a w Q R hs=>(hs:False).elim,fun l st K ρ C a w R hs=>(hs:False).elim⟩;intro l st K ρ C a w R hs;rw[gen] at hs;obtain⟨D0,hx0,hm0,R0,hi0,hbody⟩:=yK R hs;refine wp_loop_ghost (fun m a w=>∃ ρ D,ExtL C D/\D.m=C.m/\Rep B h0 w0 ρ (ji (A l) st) D a w/\E.inv l D.bare/\E.meas l D.bare=m) (E.meas l D0.bare) ⟨ρ,D0,hx0,hm0,R0,hi0,rfl⟩ ?_;rintro m a w ⟨ρ,D,hx,hmD,RD,hi,rfl⟩;refine wp_mono (ih.1 (l+1) _ _ ρ (D.mark l (E.meas l D.bare)) a w (RD.mark _ _) (hbody ρ D a w hx hmD RD hi)) ?_;rintro e a w ⟨ρ,st',D',hx',hm',R',hs'⟩;have hxD':ExtL D D':=(ExtL.mark D _ _).trans hx';have hmm:∀ k,k<l->D'.m k=C.m k:=fun k hk=>by rw[hm' k (by omega),yN D (by omega),hmD]
   cases e with
   | normal=>
     obtain⟨F,h1,h1',h2,h3,h4⟩:=vz R.has R.ones hx hxD' R' (by rw[hm' l (by omega),Og]) hs';exact⟨_,h4,ρ,F,h1,h1',h2,h3,rfl⟩
   | exit id=>exact⟨ρ,st',D',hx.trans hxD',hmm,R',hs'⟩
   | goto l=>exact⟨ρ,st',D',hx.trans hxD',hmm,R',hs'⟩
   | ret=>exact⟨ρ,st',D',hx.trans hxD',hmm,R',hs'⟩
   | panic ch=>exact⟨ρ,st',D',hx.trans hxD',hmm,R',hs'⟩
   | outgrown=>exact⟨ρ,st',D',hx.trans hxD',hmm,R',hs'⟩
 | scope c ih=>
   refine⟨?_,fun l st K ρ C a w Q R hs=>(hs:False).elim,fun l st K ρ C a w R hs=>(hs:False).elim⟩;intro l st K ρ C a w R hs;rw[gen] at hs;split at hs
   . exact hs.elim
   . rename_i lb hlb;obtain⟨rest,hf⟩:=BK c hlb
     let I:Nat->Act->World->Prop:=fun m a w=>∃ st1 C1 ρ D,ExtL C C1/\(∀ k,k<l->C1.m k=C.m k)/\Has C1 st1.n/\eG C1.v/\ExtL C1 D/\D.m=C1.m/\Rep B h0 w0 ρ (ji (A l) st1) D a w/\E.inv l D.bare/\E.meas l D.bare=m/\
      ∀ ρ D a w,ExtL C1 D->D.m=C1.m->Rep B h0 w0 ρ (ji (A l) st1) D a w->E.inv l D.bare->(PV nw P A c (l+1) (ji (A l) st1) fun e st'=>match e with
       | .goto j=>if j=lb then xG l st1.n (ji (A l) st1) st' else .ff
       | e=>K e st').says E (D.mark l (E.meas l D.bare))
     have pass:∀ m a w,I m a w->SH P c (Exit.jump lb (fun a' w'=>∃ n',n'<m/\I n' a' w') (After E B h0 w0 l C K)) a w:=by
      rintro m a w ⟨st1,C1,ρ,D,hC1,hmC,H1,ho1,hx,hmD,RD,hi,rfl,hbody⟩;refine uu c (ih.2.2 (l+1) _ _ ρ (D.mark l (E.meas l D.bare)) a w (RD.mark _ _) (hbody ρ D a w hx hmD RD hi)) ?_;rintro e a w ⟨ρ,st',D',hx',hm',R',hs'⟩;have hxD':ExtL D D':=(ExtL.mark D _ _).trans hx';have hmm:∀ k,k<l->D'.m k=C.m k:=fun k hk=>by rw[hm' k (by omega),yN D (by omega),hmD,hmC k hk]
      cases e with
      | goto j=>
        simp only at hs';split at hs'
        . rename_i hj;obtain⟨F,h1,h1',h2,h3,h4⟩:=vz H1 ho1 hx hxD' R' (by rw[hm' l (by omega),Og]) hs';exact⟨hj,_,h4,st1,C1,ρ,F,hC1,hmC,H1,ho1,h1,h1',h2,h3,rfl,hbody⟩
        . exact (hs':False).elim
      | normal=>exact⟨ρ,st',D',(hC1.trans hx).trans hxD',hmm,R',hs'⟩
      | exit id=>exact⟨ρ,st',D',(hC1.trans hx).trans hxD',hmm,R',hs'⟩
      | ret=>exact⟨ρ,st',D',(hC1.trans hx).trans hxD',hmm,R',hs'⟩
      | panic ch=>exact⟨ρ,st',D',(hC1.trans hx).trans hxD',hmm,R',hs'⟩
      | outgrown=>exact⟨ρ,st',D',(hC1.trans hx).trans hxD',hmm,R',hs'⟩
     refine zS lb I hf ?_ (fun m a w hI=>Xl c (pass m a w hI) hlb hf);refine ih.2.1 (l+1) st _ ρ C a w _ R hs (fun ρ st1 C1 a w hx hm1 R1 hs1=>?_) (fun e he ρ st1 C1 a w hx hm1 R1 hs1=>?_)
     . obtain⟨D0,hx0,hm0,R0,hi0,hbody⟩:=yK R1 hs1;refine uu c (pass _ a w ⟨st1,C1,ρ,D0,hx,fun k hk=>hm1 k (by omega),R1.has,R1.ones,hx0,hm0,R0,hi0,rfl,hbody⟩) ?_;intro e a w h;cases e with
       | goto j=>exact⟨h.1,h.2.choose,h.2.choose_spec.2⟩
       | normal=>exact h
       | exit id=>exact h
       | ret=>exact h
       | panic ch=>exact h
       | outgrown=>exact h
     . cases e with
       | normal=>exact absurd rfl he
       | goto j=>exact (hs1:False).elim
       | exit id=>exact⟨ρ,st1,C1,hx,fun k hk=>hm1 k (by omega),R1,hs1⟩
       | ret=>exact⟨ρ,st1,C1,hx,fun k hk=>hm1 k (by omega),R1,hs1⟩
       | panic ch=>exact⟨ρ,st1,C1,hx,fun k hk=>hm1 k (by omega),R1,hs1⟩
       | outgrown=>exact⟨ρ,st1,C1,hx,fun k hk=>hm1 k (by omega),R1,hs1⟩
 | exit id=>exact⟨fun l st K ρ C a w R hs=>wp_exit ⟨ρ,st,C,ExtL.refl C,fun _ _=>rfl,R,hs⟩,fun l st K ρ C a w Q R hs=>(hs:False).elim,fun l st K ρ C a w R hs=>(hs:False).elim⟩
 | ret=>exact⟨fun l st K ρ C a w R hs=>wp_ret ⟨ρ,st,C,ExtL.refl C,fun _ _=>rfl,R,hs⟩,fun l st K ρ C a w Q R hs=>(hs:False).elim,fun l st K ρ C a w R hs=>(hs:False).elim⟩
 | rangeFunc f p x y _ _=>exact⟨fun l st K ρ C a w R hs=>(hs:False).elim,fun l st K ρ C a w Q R hs=>(hs:False).elim,fun l st K ρ C a w R hs=>(hs:False).elim⟩
 | label m=>
   refine⟨fun l st K ρ C a w R hs=>(hs:False).elim,fun l st K ρ C a w Q R hs hn ho=>?_,fun l st K ρ C a w R hs=>?_⟩
   . exact wp_label (hn ρ st C a w (ExtL.refl C) (fun _ _=>rfl) R hs)
   . exact⟨ρ,st,C,ExtL.refl C,fun _ _=>rfl,R,hs⟩
 | goto m=>exact⟨fun l st K ρ C a w R hs=>wp_goto ⟨ρ,st,C,ExtL.refl C,fun _ _=>rfl,R,hs⟩,fun l st K ρ C a w Q R hs=>(hs:False).elim,fun l st K ρ C a w R hs=>(hs:False).elim⟩
 | refuse s=>exact⟨fun l st K ρ C a w R hs=>(hs:False).elim,fun l st K ρ C a w Q R hs=>(hs:False).elim,fun l st K ρ C a w R hs=>(hs:False).elim⟩
theorem QD (hE:Good P E) (nw:iY) (A:Nat->bG) (c:Code) (l:Nat) (st:St) (K:Exit->St->Fm) (ρ:Nat->Nat) (C:Ctx) (a:Act) (w:World) (R:Rep B h0 w0 ρ st C a w) (hs:(gen nw P A c l st K).says E C):
 c.wp P (After E B h0 w0 l C K) a w:=(JU hE nw A c).1 l st K ρ C a w R hs
end
section
variable {P:Program} {E:Env} {B:Nat} {h0:Hp} {w0:World} {ρ:Nat->Nat} {st:St} {C:Ctx} {a:Act} {w:World}
def RS (t:Array Value):ResultVar->Sem Value
 | .tmp s=>pure (t.getD s undef)
 | .cell x ty=>do loadVar ty (<- asAddr (t.getD x undef))
theorem LD (fn:Func) (t:Array Value):results fn t=(do let vs <- fn.results.mapM (RS t);pure (if h:vs.size=1 then vs[0] else .tuple vs)):=by
 unfold results;congr 1
theorem Wx (R:Rep B h0 w0 ρ st C a w) {r:ResultVar} {p:PE} (h:resV P st r=some p):(RS a.tmps r).run P w=.ok (p.den C ρ) w:=by
 cases r with
 | tmp t=>
   have e:a.tmps.getD t undef=p.den C ρ:=aK (x:=.tmp t) R (aN _) h;simp only[RS,e,Sem.run_pure]
 | cell x t=>
   simp only[resV,Option.bind_eq_some_iff] at h;obtain⟨q,hq,hl⟩:=h;have e:a.tmps.getD x undef=q.den C ρ:=aK (x:=.tmp x) R (aN _) hq;have hrun:=yI R hl;unfold vU at hl;split at hl
   . rename_i k o;simp only[RS,e,PE.den,CE.den];exact hrun
   . cases hl
theorem RU (R:Rep B h0 w0 ρ st C a w):∀ {rs:List ResultVar} {ps:List PE},IJ P st rs=some ps->(rs.mapM (RS a.tmps)).run P w=.ok (ps.map (PE.den C ρ)) w:=by
 intro rs
 induction rs with
 | nil=>intro ps h;cases h;rfl
 | cons r rs ih=>
   intro ps h;rw[IJ] at h;split at h
   . rename_i x xs hx hxs;cases h;rw[List.mapM_cons,Sem.run_bind,Wx R hx,Result.andThen_ok,Sem.run_bind,ih hxs,Result.andThen_ok];rfl
   . cases h
def abb (C:Ctx) (ρ:Nat->Nat):List PE->Value
 | [x]=>x.den C ρ
 | xs=>.tuple (xs.map (PE.den C ρ)).toArray
theorem vX (R:Rep B h0 w0 ρ st C a w) {fn:Func} {ps:List PE} (h:IJ P st fn.results.toList=some ps):(results fn a.tmps).run P w=.ok (abb C ρ ps) w:=by
 rw[LD,Sem.run_bind,Array.mapM_eq_mapM_toList];show ((do let x <- fn.results.toList.mapM (RS a.tmps);pure x.toArray:Sem (Array Value)).run P w).andThen _=_;rw[Sem.run_bind,RU R h,Result.andThen_ok];simp only[Sem.run_pure,Result.andThen_ok];congr 1
 match ps with
 | []=>rfl
 | [x]=>rfl
 | x::y::l=>rw[dif_neg (by simp)];rfl
theorem zu (R:Rep B h0 w0 ρ st C a w) {fn:Func} (hs:(YU P fn st).says E C):∃ v,(results fn a.tmps).run P w=.ok v w/\E.post v C.h:=by
 unfold YU at hs;split at hs
 . rename_i x hx;split at hs
   . rename_i hp;refine⟨_,vX R hx,?_⟩;have:E.post (x.den C bg) C.h:=hs;rw[x.dY (σ:=ρ) hp] at this;exact this
   . exact hs.elim
 . rename_i xs hne hx;split at hs
   . rename_i hp;refine⟨_,vX R hx,?_⟩;have:E.post (.tuple (xs.map (PE.den C bg)).toArray) C.h:=hs;rw[show xs.map (PE.den C bg)=xs.map (PE.den C ρ) from List.map_congr_left fun x hx=>PE.dY x (List.all_eq_true.1 hp x hx)] at this
     match xs,hne,this with
     | [],_,h=>exact h
     | [y],hne,_=>exact absurd rfl (hne y)
     | x::y::l,_,h=>exact h
   . exact hs.elim
 . exact hs.elim
end
theorem vF {P:Program} {f:FuncId} {fn:Func} (hf:P.funcs[f]? = some fn) (nw:iY) (A:Nat->bG) {E:Env} (hE:Good P E) {fm:Fm} {ps:List PE} {n:Cnt} (hfm:jK nw P A fn ps n=fm)
 (C:Ctx) (hC:Has C n) (ho:eG C.v)
 (h:fm.says E C) (w:World) (hH:Holds C.h w) {args:Array Value} (ha:args.toList=ps.map (PE.den C bg)):
 Calls P f args w fun e w'=>∃ v k,e=.returned v/\E.post v k/\Holds k w'/\Fr w.heap.size C.h k w w':=by
 subst hfm;unfold jK at h;split at h
 . rename_i c hbody;refine calls_of_wp hf hbody ?_;have hsz:args.size=ps.length:=by
    have:=congrArg List.length ha;simpa using this
   have R:Rep w.heap.size C.h w bg ⟨ps.map .p++List.replicate (fn.ntmps - ps.length) .dead,[],n⟩ C { tmps:=args++Array.replicate (fn.ntmps - args.size) undef,defers:=[] } w:=by
    refine⟨rfl,by simp[hsz],?_,fun k b hk=>by simp at hk,fun k hk=>by simp at hk,fun k j hk=>by simp at hk,fun k hk=>by simp at hk,hH,Fr.refl _ _ _,Nat.le_refl _,hC.i,hC.b,hC.s,hC.v,hC.l,hC.p,ho⟩;intro i v hiv;by_cases hlt:i<ps.length
    . rw[List.getElem?_append_left (by simpa using hlt)] at hiv;simp only[List.getElem?_map,List.getElem?_eq_getElem hlt,Option.map_some,Option.some.injEq] at hiv;subst hiv;show _=_;have hai:args.toList[i]? = some (ps[i].den C bg):=by rw[ha];simp[hlt]
      have hax:args[i]? = some (ps[i].den C bg):=by simpa using hai
      rw[Array.getD_eq_getD_getElem?,Array.getElem?_append_left (by omega),hax];rfl
    . rw[List.getElem?_append_right (by simp;omega)] at hiv;have:=List.mem_of_getElem? hiv;rw[List.eq_of_mem_replicate this];trivial
   refine wp_mono (QD hE nw A c 0 _ _ bg C _ w R h) ?_;rintro e a w' ⟨ρ,st,D,hx,_,R',hs'⟩;cases e with
   | normal=>
     obtain⟨v,h1,h2⟩:=zu R' hs';exact⟨R'.defers,v,h1,v,_,rfl,h2,R'.holds,R'.fr⟩
   | ret=>
     obtain⟨v,h1,h2⟩:=zu R' hs';exact⟨R'.defers,v,h1,v,_,rfl,h2,R'.holds,R'.fr⟩
   | exit id=>exact (hs':False).elim
   | goto l=>exact (hs':False).elim
   | panic ch=>exact (hs':False).elim
   | outgrown=>exact (hs':False).elim
 . exact h.elim
theorem Jo {P:Program} {f:FuncId} {fn:Func} (hf:P.funcs[f]? = some fn) (nw:iY) (A:Nat->bG) {E:Env} (hE:Good P E) {fm:Fm} (hfm:aU nw P A fn=fm) {ps:List PE} {n:Cnt}
 (hp:az P .zero fn.params.toList=some (ps,n)) (C:Ctx) (hC:Has C n) (ho:eG C.v)
 (h:fm.says E C) (w:World) (hH:Holds C.h w) {args:Array Value} (ha:args.toList=ps.map (PE.den C bg)):
 Calls P f args w fun e w'=>∃ v k,e=.returned v/\E.post v k/\Holds k w'/\Fr w.heap.size C.h k w w':=by
 refine vF hf nw A hE ?_ C hC ho h w hH ha;unfold aU at hfm;rw[hp] at hfm;exact hfm
structure Ct (P:Program) where
 f:FuncId
 spec:List Value->Hp->(Value->Hp->Prop)->Prop
 ok:∀ args h φ w,spec args h φ->Holds h w->Calls P f args.toArray w fun e w'=>∃ v k,e=.returned v/\φ v k/\Holds k w'/\Fr w.heap.size h k w w'
def oK {P:Program}:List (Ct P)->FuncId->List Value->Hp->(Value->Hp->Prop)->Prop
 | [],_,_,_,_=>False
 | c::cs,f,args,h,φ=>if c.f=f then c.spec args h φ else oK cs f args h φ
def aG {P:Program} (cs:List (Ct P)) (f:FuncId) (args:List Value) (h:Hp) (φ:Value->Hp->Prop):Prop:=
 if f=iM then ∃ args' f' cap,args=.func (.func f') #[] (List.toArray cap)::args'/\nN P f'=true/\f'≠iM/\oK cs f' (args'++cap) h φ else oK cs f args h φ
theorem zK {P:Program} (cs:List (Ct P)):∀ f args h φ w,oK cs f args h φ->Holds h w->Calls P f args.toArray w fun e w'=>∃ v k,e=.returned v/\φ v k/\Holds k w'/\Fr w.heap.size h k w w':=by
 induction cs with
 | nil=>intro f args hh φ w h;exact h.elim
 | cons c cs ih=>
   intro f args hh φ w h hH;rw[oK] at h;split at h
   . rename_i hf;subst hf;exact c.ok args hh φ w h hH
   . exact ih f args hh φ w h hH
theorem ww {P:Program} (cs:List (Ct P)):∀ f args h φ w,aG cs f args h φ->Holds h w->
 if f=iM then ∃ args' f' cap,args=.func (.func f') #[] (List.toArray cap)::args'/\nN P f'=true/\Calls P f' (args'++cap).toArray w fun e w'=>∃ v k,e=.returned v/\φ v k/\Holds k w'/\Fr w.heap.size h k w w'
 else Calls P f args.toArray w fun e w'=>∃ v k,e=.returned v/\φ v k/\Holds k w'/\Fr w.heap.size h k w w':=by
 intro f args h φ w hs hH;unfold aG at hs;by_cases hf:f=iM
 . rw[if_pos hf] at hs⊢;obtain⟨args',f',cap,h1,h2,_,h4⟩:=hs;exact⟨args',f',cap,h1,h2,zK cs _ _ _ _ w h4 hH⟩
 . rw[if_neg hf] at hs⊢;exact zK cs _ _ _ _ w hs hH
theorem TV {P:Program} {f:FuncId} {args:Array Value} {w:World} {v:Value} {h:Hp} {φ:Value->Hp->Prop} (hc:Calls P f args w fun e w'=>e=.returned v/\Below w.heap.size w w') (hφ:φ v h) (hH:Holds h w):
 Calls P f args w fun e w'=>∃ v k,e=.returned v/\φ v k/\Holds k w'/\Fr w.heap.size h k w w':=hc.mono fun _ _ ⟨he,hb⟩=>⟨v,h,he,hφ,hH.below hb,Fr.of_below hb⟩
theorem wW {P:Program} {f:FuncId} {args:Array Value} {w:World} {v:Value} {h:Hp} {φ:Value->Hp->Prop} (hc:Calls P f args w fun e w'=>e=.returned v/\w=w') (hφ:φ v h) (hH:Holds h w):
 Calls P f args w fun e w'=>∃ v k,e=.returned v/\φ v k/\Holds k w'/\Fr w.heap.size h k w w':=hc.mono fun _ _ ⟨he,hb⟩=>⟨v,h,he,hφ,hb▸hH,hb▸Fr.refl _ _ _⟩
theorem aaF {a b:List UInt8}:(B a=B b)=(a=b):=by
 apply propext;constructor
 . intro h;have:=congrArg ByteArray.toList h;rwa [fF,fF] at this
 . rintro rfl;rfl
def bJ:Nat->Ctx->Prop:=fun _ _=>False
def aV:Nat->Ctx->Nat:=fun _ _=>0
theorem aZ {P:Program} {f:FuncId} {fn:Func} (hf:P.funcs[f]? = some fn) {nw:iY} {A:Nat->bG} {fm:Fm} (hfm:aU nw P A fn=fm) {ps:List PE} {n:Cnt} (hp:az P .zero fn.params.toList=some (ps,n))
 (cts:List (Ct P)) (post:Value->Hp->Prop) (inv:Nat->Ctx->Prop) (meas:Nat->Ctx->Nat) (C:Ctx) (hC:Has C n) (ho:eG C.v) (h:fm.says ⟨aG cts,post,inv,meas⟩ C) (w:World) (hH:Holds C.h w) {args:Array Value} (ha:args.toList=ps.map (PE.den C bg)):
 Calls P f args w fun e w'=>∃ v k,e=.returned v/\post v k/\Holds k w'/\Fr w.heap.size C.h k w w':=
 Jo hf nw A (E:=⟨aG cts,post,inv,meas⟩) (ww cts) hfm hp C hC ho h w hH ha
theorem oU {P:Program} {f:FuncId} {fn:Func} (hf:P.funcs[f]? = some fn) {nw:iY} {A:Nat->bG} {fm:Fm} {ps:List PE} {n:Cnt} (hfm:jK nw P A fn ps n=fm)
 (cts:List (Ct P)) (post:Value->Hp->Prop) (inv:Nat->Ctx->Prop) (meas:Nat->Ctx->Nat) (C:Ctx) (hC:Has C n) (ho:eG C.v) (h:fm.says ⟨aG cts,post,inv,meas⟩ C) (w:World) (hH:Holds C.h w) {args:Array Value} (ha:args.toList=ps.map (PE.den C bg)):
 Calls P f args w fun e w'=>∃ v k,e=.returned v/\post v k/\Holds k w'/\Fr w.heap.size C.h k w w':=
 vF hf nw A (E:=⟨aG cts,post,inv,meas⟩) (ww cts) hfm C hC ho h w hH ha
theorem xk {p:Bool} {a b:Prop}:((p=true->a)/\(p=false->b))=(if p=true then a else b):=by
 apply propext;cases p<;>simp
section
variable (E:Env) (C:Ctx)
theorem aY:Fm.tt.says E C=True:=rfl
theorem aX:Fm.ff.says E C=False:=rfl
theorem qC (g c:BE) (k:Fm):(Fm.need g c k).says E C=((if g.den C=true then c.den C=true else True)/\k.says E C):=by
 show ((g.den C=true->c.den C=true)/\k.says E C)=_;congr 1;apply propext;cases g.den C<;>simp
theorem uh (b:BE) (t e:Fm):(Fm.ite b t e).says E C=if b.den C=true then t.says E C else e.says E C:=xk
theorem qA (g:BE) (m:Bool) (f:FuncId) (args:List PE) (r:VE) (d:Cnt) (k:Fm):(Fm.call g m f args r d k).says E C =
 if g.den C=true then E.spec f (args.map (PE.den C bg)) C.h fun v h=>(m=true->bY C.h h)/\DL d fun x=>v=r.den (C.push x) bg/\k.says E ((C.push x).heap h) else k.says E (C.push (Inc.blank d)):=xk
theorem nY (g:BE) (ks:List (BE×AE×Nat)) (f:FuncId) (args:List PE) (r:VE) (d:Cnt) (k:Fm):(Fm.callK g ks f args r d k).says E C =
 if g.den C=true then E.spec f (args.map (PE.den C bg)) C.h fun v h=>(∀ x∈ks,x.1.den C=true->hread h (x.2.1.den C) x.2.2=hread C.h (x.2.1.den C) x.2.2)/\DL d fun x=>v=r.den (C.push x) bg/\k.says E ((C.push x).heap h) else k.says E (C.push (Inc.blank d)):=xk
theorem qB (g:BE) (a:AE) (n:Nat) (r:List CE) (d:Cnt) (k:Fm):(Fm.load g a n r d k).says E C =
 if g.den C=true then DL d fun x=>hread C.h (a.den C) n=some (r.map (CE.den (C.push x) bg))/\k.says E (C.push x) else k.says E (C.push (Inc.blank d)):=xk
theorem rP (a:AE) (cs:List CE) (k:Fm):(Fm.store a cs k).says E C=∃ h,l9 C.h (a.den C) (cs.map (CE.den C bg))=some h/\k.says E (C.heap h):=rfl
theorem ui (cs:List CE) (ty:TypeId) (len:Nat) (k:Fm):(Fm.mk cs ty len k).says E C=∀ b,C.h b=none->k.says E ((C.push ⟨[],[],[],[],[⟨some (b,0),len,len⟩],[]⟩).heap (C.h.set b ⟨cs.map (CE.den C bg),ty⟩)):=rfl
theorem zC (n:IE) (z:CE) (ty:TypeId) (k:Fm):(Fm.Zu n z ty k).says E C=(0<=n.den C/\n.den C<=16777216/\∀ b,C.h b=none->k.says E ((C.push ⟨[],[],[],[],[⟨some (b,0),(n.den C).toNat,(n.den C).toNat⟩],[]⟩).heap (C.h.set b ⟨List.replicate (n.den C).toNat (z.den C bg),ty⟩))):=rfl
theorem zD (cs:List CE) (ty:TypeId) (k:Fm):(Fm.new cs ty k).says E C=∀ b,C.h b=none->k.says E ((C.push ⟨[],[],[],[],[],[some (b,0)]⟩).heap (C.h.set b ⟨cs.map (CE.den C bg),ty⟩)):=rfl
theorem zF (l:LE) (k:Fm):(Fm.str l k).says E C=∃ bs,BytesAt C.h (l.den C) bs/\k.says E (C.push ⟨[],[],[bs],[],[],[]⟩):=rfl
theorem au (r:VE):(Fm.ret r).says E C=E.post (r.den C bg) C.h:=rfl
theorem says_again (o:Nat) (n0 n1:Cnt) (g:kZ):(Fm.again o n0 n1 g).says E C=(E.inv o ((C.cut n0).push (g.den C)).bare/\E.meas o ((C.cut n0).push (g.den C)).bare<C.m o):=rfl
theorem bT (s y:LE) (sz bytes:Nat) (ty:TypeId) (k:Fm):(Fm.app s y sz bytes ty k).says E C=∃ xs ys,dC C.h (s.den C) xs ty sz/\RdS C.h (y.den C) ys sz/\eG ys/\(s.den C).n+(y.den C).n<=maxLen/\((s.den C).n+(y.den C).n)*bytes<=140737488355328/\
 ∀ s' h,dC h s' (xs++ys) ty sz->s'.n=(s.den C).n+(y.den C).n->(∀ x,s'.a=some x->(∃ z,(s.den C).a=some z/\z.1=x.1)\/C.h x.1=none)->(∀ b o,(∀ x,(s.den C).a=some x->x.1≠b)->C.h b=some o->h b=some o)->k.says E ((C.push ⟨[],[],[],[],[s'],[]⟩).heap h):=rfl
theorem WC (s:LE) (y:SE) (ty:TypeId) (k:Fm):(Fm.aps s y ty k).says E C=∃ xs,dC C.h (s.den C) xs ty 1/\(s.den C).n+(y.den C).length<=2000000000000/\
 ∀ s' h,dC h s' (xs++(y.den C).map fun c=>Value.int .u8 c.toNat) ty 1->s'.n=(s.den C).n+(y.den C).length->(∀ x,s'.a=some x->(∃ z,(s.den C).a=some z/\z.1=x.1)\/C.h x.1=none)->(∀ b o,(∀ x,(s.den C).a=some x->x.1≠b)->C.h b=some o->h b=some o)->k.says E ((C.push ⟨[],[],[],[],[s'],[]⟩).heap h):=rfl
end
def Then (E:Env) (k:Fm) (C:Ctx):Prop:=k.says E C
theorem ae (E:Env) (k:Fm) (C:Ctx):Then E k C=k.says E C:=rfl
section
variable (E:Env) (C:Ctx)
theorem aA (g c:BE) (k:Fm):(Fm.need g c k).says E C=((if g.den C=true then c.den C=true else True)/\Then E k C):=qC E C g c k
theorem ak (b:BE) (t e:Fm):(Fm.ite b t e).says E C=if b.den C=true then Then E t C else Then E e C:=uh E C b t e
theorem ax (g:BE) (m:Bool) (f:FuncId) (args:List PE) (r:VE) (d:Cnt) (k:Fm):(Fm.call g m f args r d k).says E C =
 if g.den C=true then E.spec f (args.map (PE.den C bg)) C.h fun v h=>(m=true->bY C.h h)/\DL d fun x=>v=r.den (C.push x) bg/\Then E k ((C.push x).heap h) else Then E k (C.push (Inc.blank d)):=qA E C g m f args r d k
theorem aF (g:BE) (ks:List (BE×AE×Nat)) (f:FuncId) (args:List PE) (r:VE) (d:Cnt) (k:Fm):(Fm.callK g ks f args r d k).says E C =
 if g.den C=true then E.spec f (args.map (PE.den C bg)) C.h fun v h=>(∀ x∈ks,x.1.den C=true->hread h (x.2.1.den C) x.2.2=hread C.h (x.2.1.den C) x.2.2)/\DL d fun x=>v=r.den (C.push x) bg/\Then E k ((C.push x).heap h) else Then E k (C.push (Inc.blank d)):=nY E C g ks f args r d k
theorem aT (g:BE) (a:AE) (n:Nat) (r:List CE) (d:Cnt) (k:Fm):(Fm.load g a n r d k).says E C =
 if g.den C=true then DL d fun x=>hread C.h (a.den C) n=some (r.map (CE.den (C.push x) bg))/\Then E k (C.push x) else Then E k (C.push (Inc.blank d)):=qB E C g a n r d k
theorem aJ (a:AE) (cs:List CE) (k:Fm):(Fm.store a cs k).says E C=∃ h,l9 C.h (a.den C) (cs.map (CE.den C bg))=some h/\Then E k (C.heap h):=rfl
theorem aW (cs:List CE) (ty:TypeId) (len:Nat) (k:Fm):(Fm.mk cs ty len k).says E C=∀ b,C.h b=none->Then E k ((C.push ⟨[],[],[],[],[⟨some (b,0),len,len⟩],[]⟩).heap (C.h.set b ⟨cs.map (CE.den C bg),ty⟩)):=rfl
theorem gV (n:IE) (z:CE) (ty:TypeId) (k:Fm):(Fm.Zu n z ty k).says E C=(0<=n.den C/\n.den C<=16777216/\∀ b,C.h b=none->Then E k ((C.push ⟨[],[],[],[],[⟨some (b,0),(n.den C).toNat,(n.den C).toNat⟩],[]⟩).heap (C.h.set b ⟨List.replicate (n.den C).toNat (z.den C bg),ty⟩))):=rfl
theorem dN (cs:List CE) (ty:TypeId) (k:Fm):(Fm.new cs ty k).says E C=∀ b,C.h b=none->Then E k ((C.push ⟨[],[],[],[],[],[some (b,0)]⟩).heap (C.h.set b ⟨cs.map (CE.den C bg),ty⟩)):=rfl
theorem eQ (l:LE) (k:Fm):(Fm.str l k).says E C=∃ bs,BytesAt C.h (l.den C) bs/\Then E k (C.push ⟨[],[],[bs],[],[],[]⟩):=rfl
end
theorem bH {E:Env} {o:Nat} {g:kZ} {k:Fm} {C:Ctx} (h1:E.inv o (C.push (g.den C)).bare)
 (h2:∀ i b s v l p h M,E.inv o ⟨i,b,s,v,l,p,h,cu⟩->M o=E.meas o ⟨i,b,s,v,l,p,h,cu⟩->k.says E ⟨i,b,s,v,l,p,h,M⟩):(Fm.loop o g k).says E C:=by
 refine⟨h1,(xH _ _).2 fun x _ _ h hi=>?_⟩;exact h2 _ _ _ _ _ _ _ _ hi (by simp[Ctx.bare,Ctx.push,Ctx.heap])
theorem OZ (x:bM) (b o n c:Nat):(Value.slice (some ⟨b,o,none⟩) n c=x.val)=(x=⟨some (b,o),n,c⟩):=by
 apply propext;cases x with
 | mk a m d=>
   cases a with
   | none=>simp[bM.val]
   | some q=>cases q;simp[bM.val];constructor<;>(rintro⟨⟨rfl,rfl⟩,rfl,rfl⟩;simp)
theorem OY (x:bM) (n c:Nat):(Value.slice none n c=x.val)=(x=⟨none,n,c⟩):=by
 apply propext;cases x with
 | mk a m d=>
   cases a with
   | none=>simp[bM.val];constructor<;>(rintro⟨rfl,rfl⟩;simp)
   | some q=>simp[bM.val]
theorem Y2 (x y:bM):(x.val=y.val)=(y=x):=by
 cases x with
 | mk a n c=>
   cases a with
   | none=>exact OY y n c
   | some q=>exact OZ y q.1 q.2 n c
theorem aaq (p:Option (Nat×Nat)) (b o:Nat):(Value.pointer (some ⟨b,o,none⟩)=Value.pointer (p.map fun x=>⟨x.1,x.2,none⟩))=(p=some (b,o)):=by
 apply propext;cases p with
 | none=>simp
 | some q=>cases q;simp;constructor<;>(rintro⟨rfl,rfl⟩;simp)
theorem aap (p:Option (Nat×Nat)):(Value.pointer none=Value.pointer (p.map fun x=>(⟨x.1,x.2,none⟩:Addr)))=(p=none):=by
 apply propext;cases p<;>simp
theorem J8 (h:Hp):bY yU h=True:=eq_true fun _ _ h=>by cases h
theorem UY (h:Hp):bY h h=True:=eq_true fun _ _ h=>h
theorem dU {h:Hp} {b:Nat} (hb:h b=none) (o:HO):bY h (h.set b o):=fun k x hk=>by
 simp only[Hp.set];rw[if_neg (fun e=>by rw[e,hb] at hk;cases hk)];exact hk
theorem ay (h:Hp) (b:Nat) (o:HO):(h.set b o) b=some o:=by simp[Hp.set]
theorem bf (h:Hp) {b k:Nat} (hk:k≠b) (o:HO):(h.set b o) k=h k:=by simp[Hp.set,hk]
theorem fG (h:Hp) (b:Nat) (o:HO) (off n:Nat):hread (h.set b o) (some (b,off)) n=if off+n<=o.cs.length then some ((o.cs.drop off).take n) else none:=by
 unfold hread;simp only[ay]
theorem bI {h:Hp} {b:Nat} {o:HO} (hb:h b=some o) (off n:Nat):hread h (some (b,off)) n=if off+n<=o.cs.length then some ((o.cs.drop off).take n) else none:=by
 unfold hread;simp only[hb]
theorem eY (h:Hp) (b:Nat) (o o':HO):(h.set b o).set b o'=h.set b o':=by
 funext k;simp only[Hp.set];split<;>rfl
theorem set_comm (h:Hp) {b c:Nat} (hc:b≠c) (o o':HO):(h.set b o).set c o'=(h.set c o').set b o:=by
 funext k;simp only[Hp.set];split<;>split<;>first | rfl | omega
theorem set_self {h:Hp} {b:Nat} {o:HO} (hb:h b=some o):h=h.set b o:=by
 funext k;simp only[Hp.set];split
 . rename_i e;rw[e,hb]
 . rfl
theorem rG (h:Hp) (b:Nat) (o:HO) (off:Nat) (cs:List Value):l9 (h.set b o) (some (b,off)) cs=if off+cs.length<=o.cs.length/\o.ty≠1000003 then some (h.set b ⟨o.cs.take off++cs++o.cs.drop (off+cs.length),o.ty⟩) else none:=by
 unfold l9;simp only[ay,eY]
theorem bQ {P:Program} {f:FuncId} {args:Array Value} {w:World} {h:Hp} {φ:Value->Hp->Prop} {B:Nat} (hc:Calls P f args w fun e w'=>∃ v k,e=.returned v/\(∃ k',bY k' k/\φ v k')/\Holds k w'/\Fr B h k w w'):
 Calls P f args w fun e w'=>∃ v k,e=.returned v/\φ v k/\Holds k w'/\Fr B h k w w':=by
 refine hc.mono ?_;rintro e w' ⟨v,k,rfl,⟨k',hl,hφ⟩,hH,hF⟩;refine⟨v,k',rfl,hφ,fun b o hb=>hH b o (hl b o hb),⟨hF.os,hF.tape,hF.output,hF.size,hF.block,fun c hc hn=>?_,fun c hc hn o ho=>hF.un c hc hn o (hl c o ho)⟩⟩;cases hq:k' c with
 | none=>rfl
 | some o=>have:=hl c o hq;rw[hF.ghost c hc hn] at this;cases this
theorem QR (b:Nat):yU b=none:=rfl
theorem af:eG []:=fun _ h=>by cases h
def Fm.k:Fm->Fm
 | .need _ _ k=>k
 | .call _ _ _ _ _ _ k=>k
 | .load _ _ _ _ _ k=>k
 | .store _ _ k=>k
 | .mk _ _ _ k=>k
 | .loop _ _ k=>k
 | .app _ _ _ _ _ k=>k
 | .aps _ _ _ k=>k
 | .str _ k=>k
 | .callK _ _ _ _ _ _ k=>k
 | .new _ _ k=>k
 | .Zu _ _ _ k=>k
 | .ite _ t _=>t
 | f=>f
def Fm.e:Fm->Fm
 | .ite _ _ e=>e
 | f=>f
theorem ag (E:Env) (C:Ctx) (g c:BE) (k:Fm):Then E (.need g c k) C=((if g.den C=true then c.den C=true else True)/\Then E k C):=aA E C g c k
theorem ah (E:Env) (C:Ctx) (b:BE) (t e:Fm):Then E (.ite b t e) C=if b.den C=true then Then E t C else Then E e C:=ak E C b t e
theorem bD (E:Env) (C:Ctx) (g:BE) (m:Bool) (f:FuncId) (args:List PE) (r:VE) (d:Cnt) (k:Fm):Then E (.call g m f args r d k) C =
 if g.den C=true then E.spec f (args.map (PE.den C bg)) C.h fun v h=>(m=true->bY C.h h)/\DL d fun x=>v=r.den (C.push x) bg/\Then E k ((C.push x).heap h) else Then E k (C.push (Inc.blank d)):=ax E C g m f args r d k
theorem ai (E:Env) (C:Ctx) (m:Bool) (f:FuncId) (args:List PE) (r:VE) (d:Cnt) (k:Fm):Then E (.call (.c true) m f args r d k) C =
 E.spec f (args.map (PE.den C bg)) C.h fun v h=>(m=true->bY C.h h)/\DL d fun x=>v=r.den (C.push x) bg/\Then E k ((C.push x).heap h):=(ax E C _ m f args r d k).trans (if_pos rfl)
theorem bP (E:Env) (C:Ctx) (g:BE) (a:AE) (n:Nat) (r:List CE) (d:Cnt) (k:Fm):Then E (.load g a n r d k) C =
 if g.den C=true then DL d fun x=>hread C.h (a.den C) n=some (r.map (CE.den (C.push x) bg))/\Then E k (C.push x) else Then E k (C.push (Inc.blank d)):=aT E C g a n r d k
theorem aj (E:Env) (C:Ctx) (r:VE):Then E (.ret r) C=E.post (r.den C bg) C.h:=au E C r
theorem rR {A:Prop} {d:Cnt} {p q:Inc->Prop} (x:Inc) (h1:x.cnt=d) (h2:eG x.v) (h3:p x) (h4:q x):(false=true->A)/\DL d fun y=>p y/\q y:=⟨fun h=>(by cases h),(bn _ _).2 ⟨x,h1,h2,h3,h4⟩⟩
theorem rL {E:Env} {C:Ctx} {a:AE} {n:Nat} {r:List CE} {d:Cnt} {k:Fm} (x:Inc) (h1:x.cnt=d) (h2:eG x.v) (h:hread C.h (a.den C) n=some (r.map (CE.den (C.push x) bg))) (hk:Then E k (C.push x)):Then E (.load (.c true) a n r d k) C:=by
 rw[ae,aT,if_pos (show (BE.c true).den C=true from rfl)];exact (bn _ _).2 ⟨x,h1,h2,h,hk⟩
attribute [go_sem] BE.den IE.den SE.den LE.den AE.den CE.den PE.den VE.den KV.val kZ.den kZ.cnt DL Xt Ud allL Ctx.push Ctx.heap Ctx.cut Ctx.bare Ctx.mark Inc.blank List.getD_cons_zero List.getD_cons_succ List.cons_append List.nil_append List.append_nil List.map_cons List.map_nil List.replicate_zero List.replicate_succ aG oK iM kJ fO U8 aaZ OZ OY Y2 aaq aap J8 UY fG rG ay eY QR aaF af and_assoc
end Go.Proofs.YtllbpdllkkcajaaGreatDoor
