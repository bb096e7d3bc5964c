/- hindcastlaw29: texts joined: EngS, EngH, EngW, EngT. -/
import Derived.Test.YtgpanefhaiohnaaGreatDoorZbc
namespace Go.Proofs.YtgpanefhaiohnaaGreatDoor
open Go.RowKit
section
variable {P:Program} {E:Env} {B:Nat} {h0:Hp} {w0:World} {ρ:Nat→Nat} {st:St} {C:Ctx} {a:Act} {w:World}
theorem Cnt.le_trans {a b c:Cnt} (h:a.le b=true) (k:b.le c=true):a.le c=true:=by
 simp only[Cnt.le,Bool.and_eq_true,decide_eq_true_eq] at *
 omega
theorem Cnt.le_refl (a:Cnt):a.le a=true:=by simp[Cnt.le]
theorem JZ {N M:Cnt} {C D:Ctx} (h:Ea M C D) (hl:N.le M=true):Ea N C D:=by
 simp only[Cnt.le,Bool.and_eq_true,decide_eq_true_eq] at hl
 exact⟨fun n hn=>h.i n (by omega),fun n hn=>h.b n (by omega),fun n hn=>h.s n (by omega),fun n hn=>h.v n (by omega),fun n hn=>h.l n (by omega),fun n hn=>h.p n (by omega)⟩
mutual
theorem IE.aJ {N M:Cnt} (h:N.le M=true):∀ e:IE,e.blw N=true→e.blw M=true
 | .x n,hb=>by simp only[IE.blw,Cnt.le,Bool.and_eq_true,decide_eq_true_eq] at *;omega
 | .c _,_=>rfl
 | .add x y,hb=>by simp only[IE.blw,Bool.and_eq_true] at *;exact⟨x.aJ h hb.1,y.aJ h hb.2⟩
 | .sub x y,hb=>by simp only[IE.blw,Bool.and_eq_true] at *;exact⟨x.aJ h hb.1,y.aJ h hb.2⟩
 | .mul x y,hb=>by simp only[IE.blw,Bool.and_eq_true] at *;exact⟨x.aJ h hb.1,y.aJ h hb.2⟩
 | .wr _ x,hb=>by simp only[IE.blw] at *;exact x.aJ h hb
 | .quo x y,hb=>by simp only[IE.blw,Bool.and_eq_true] at *;exact⟨x.aJ h hb.1,y.aJ h hb.2⟩
 | .rem x y,hb=>by simp only[IE.blw,Bool.and_eq_true] at *;exact⟨x.aJ h hb.1,y.aJ h hb.2⟩
 | .bits _ _ x y,hb=>by simp only[IE.blw,Bool.and_eq_true] at *;exact⟨x.aJ h hb.1,y.aJ h hb.2⟩
 | .sh _ _ x y,hb=>by simp only[IE.blw,Bool.and_eq_true] at *;exact⟨x.aJ h hb.1,y.aJ h hb.2⟩
 | .len x,hb=>by simp only[IE.blw] at *;exact x.aJ h hb
 | .at x y,hb=>by simp only[IE.blw,Bool.and_eq_true] at *;exact⟨x.aJ h hb.1,y.aJ h hb.2⟩
 | .cnt x,hb=>by simp only[IE.blw] at *;exact x.aJ h hb
 | .cap x,hb=>by simp only[IE.blw] at *;exact x.aJ h hb
 | .ite x y z,hb=>by simp only[IE.blw,Bool.and_eq_true] at *;exact⟨⟨x.aJ h hb.1.1,y.aJ h hb.1.2⟩,z.aJ h hb.2⟩
theorem BE.aJ {N M:Cnt} (h:N.le M=true):∀ e:BE,e.blw N=true→e.blw M=true
 | .x n,hb=>by simp only[BE.blw,Cnt.le,Bool.and_eq_true,decide_eq_true_eq] at *;omega
 | .c _,_=>rfl
 | .not x,hb=>by simp only[BE.blw] at *;exact x.aJ h hb
 | .and x y,hb=>by simp only[BE.blw,Bool.and_eq_true] at *;exact⟨x.aJ h hb.1,y.aJ h hb.2⟩
 | .or x y,hb=>by simp only[BE.blw,Bool.and_eq_true] at *;exact⟨x.aJ h hb.1,y.aJ h hb.2⟩
 | .imp x y,hb=>by simp only[BE.blw,Bool.and_eq_true] at *;exact⟨x.aJ h hb.1,y.aJ h hb.2⟩
 | .eqI x y,hb=>by simp only[BE.blw,Bool.and_eq_true] at *;exact⟨x.aJ h hb.1,y.aJ h hb.2⟩
 | .lt x y,hb=>by simp only[BE.blw,Bool.and_eq_true] at *;exact⟨x.aJ h hb.1,y.aJ h hb.2⟩
 | .le x y,hb=>by simp only[BE.blw,Bool.and_eq_true] at *;exact⟨x.aJ h hb.1,y.aJ h hb.2⟩
 | .eqB x y,hb=>by simp only[BE.blw,Bool.and_eq_true] at *;exact⟨x.aJ h hb.1,y.aJ h hb.2⟩
 | .eqS x y,hb=>by simp only[BE.blw,Bool.and_eq_true] at *;exact⟨x.aJ h hb.1,y.aJ h hb.2⟩
 | .ltS x y,hb=>by simp only[BE.blw,Bool.and_eq_true] at *;exact⟨x.aJ h hb.1,y.aJ h hb.2⟩
 | .nns x,hb=>by simp only[BE.blw] at *;exact x.aJ h hb
 | .nnp n,hb=>by simp only[BE.blw,Cnt.le,Bool.and_eq_true,decide_eq_true_eq] at *;omega
 | .ite x y z,hb=>by simp only[BE.blw,Bool.and_eq_true] at *;exact⟨⟨x.aJ h hb.1.1,y.aJ h hb.1.2⟩,z.aJ h hb.2⟩
theorem SE.aJ {N M:Cnt} (h:N.le M=true):∀ e:SE,e.blw N=true→e.blw M=true
 | .x n,hb=>by simp only[SE.blw,Cnt.le,Bool.and_eq_true,decide_eq_true_eq] at *;omega
 | .c _,_=>rfl
 | .app x y,hb=>by simp only[SE.blw,Bool.and_eq_true] at *;exact⟨x.aJ h hb.1,y.aJ h hb.2⟩
 | .sub x y z,hb=>by simp only[SE.blw,Bool.and_eq_true] at *;exact⟨⟨x.aJ h hb.1.1,y.aJ h hb.1.2⟩,z.aJ h hb.2⟩
 | .ite x y z,hb=>by simp only[SE.blw,Bool.and_eq_true] at *;exact⟨⟨x.aJ h hb.1.1,y.aJ h hb.1.2⟩,z.aJ h hb.2⟩
theorem LE.aJ {N M:Cnt} (h:N.le M=true):∀ e:LE,e.blw N=true→e.blw M=true
 | .x n,hb=>by simp only[LE.blw,Cnt.le,Bool.and_eq_true,decide_eq_true_eq] at *;omega
 | .nil,_=>rfl
 | .sub x y z _,hb=>by simp only[LE.blw,Bool.and_eq_true] at *;exact⟨⟨x.aJ h hb.1.1,y.aJ h hb.1.2⟩,z.aJ h hb.2⟩
end
theorem AE.aJ {N M:Cnt} (h:N.le M=true):∀ e:AE,e.blw N=true→e.blw M=true
 | .pt n _,hb=>by simp only[AE.blw,Cnt.le,Bool.and_eq_true,decide_eq_true_eq] at *;omega
 | .el l i _ _,hb=>by simp only[AE.blw,Bool.and_eq_true] at *;exact⟨l.aJ h hb.1,i.aJ h hb.2⟩
 | .ix n i _ _,hb=>by
   simp only[AE.blw,Bool.and_eq_true,decide_eq_true_eq] at hb⊢
   refine⟨?_,i.aJ h hb.2⟩
   simp only[Cnt.le,Bool.and_eq_true,decide_eq_true_eq] at h
   omega
theorem CE.aJ {N M:Cnt} (h:N.le M=true) (e:CE) (hb:e.blw N=true):e.blw M=true:=by
 cases e with
 | i _ e=>exact IE.aJ h e hb
 | b e=>exact BE.aJ h e hb
 | s e=>exact SE.aJ h e hb
 | own _ _=>rfl
 | osl _ _=>rfl
 | v n=>simp only[CE.blw,Cnt.le,Bool.and_eq_true,decide_eq_true_eq] at *;omega
 | c _=>rfl
 | sl e=>exact LE.aJ h e hb
 | pt n=>simp only[CE.blw,Cnt.le,Bool.and_eq_true,decide_eq_true_eq] at *;omega
 | adr e=>exact AE.aJ h e hb
 | clo f l=>exact List.all_eq_true.2 fun n hn=>by have:=List.all_eq_true.1 hb n hn;simp only[Cnt.le,Bool.and_eq_true,decide_eq_true_eq] at *;omega
theorem PE.aJ {N M:Cnt} (h:N.le M=true) (e:PE) (hb:e.blw N=true):e.blw M=true:=
 List.all_eq_true.2 fun c hc=>CE.aJ h c (List.all_eq_true.1 hb c hc)
theorem VE.aJ {N M:Cnt} (h:N.le M=true) (e:VE) (hb:e.blw N=true):e.blw M=true:=by
 cases e with
 | dead=>rfl
 | p x=>exact PE.aJ h x hb
 | tup l=>exact List.all_eq_true.2 fun c hc=>PE.aJ h c (List.all_eq_true.1 hb c hc)
 | wg gs x=>exact PE.aJ h x hb
structure Eb (nw:iy) (P:Program) (ops:Array Oper) (D:Dr):Prop where
 tab:D.tab=qB ops.toList []
 down:∀ i o,ops[i]? = some o→∀ e∈direct o,e<i
 still:∀ v∈D.st.t,v.still=true
 blw:D.st.blw=true
 n0:D.st.n.le (D.n 0)=true
 nodup:D.calls.Nodup
 callsLt:∀ c∈D.calls,c<D.L
 len:D.recs.length=D.L
 at':∀ i,i<D.L→D.okAt nw P ops i=true
 mono:∀ k,k<D.calls.length→(D.n k).le (D.n (k+1))=true
 wr:∀ t j,D.wr t=some j→(ops[j]?).bind (·.dst)=some t
 chain:∀ s,s≤D.calls.length→jF s D.recs (D.start s) (D.n s)=true∧(D.start s).le (D.n s)=true
 Lle:D.L≤ops.size
 suf:∀ i,D.L≤i→i<ops.size→∀ j,j<i→j∈D.z∨j∈D.pre i
 wrLt:∀ t j,D.wr t=some j→j<D.L
 alOk:∀ i b,D.al=some (i,b)→D.sl=[]∧i<D.L∧D.st.qA=true∧∀ (j:Nat) r,D.recs[j]? = some r→j=i∨i∈D.pre j∨r.ve.qA D.st.m.length=true
 slOk:∀ x∈D.sl,x.1<D.L
 slN:(D.sl.map (·.1)).Nodup
 slK:(D.sl.map (·.2.1)).Nodup
 znd:D.z.Nodup
 zOk:∀ z∈D.z,z<D.L∧EP ops z=true
 zSel:D.z=[]∨Region.noSelect ops=true
theorem V8 {nw:iy} {ops:Array Oper} {D:Dr} (h:D.ok nw P ops=true):Eb nw P ops D:=by
 unfold Dr.ok at h
 simp only[Bool.and_eq_true,decide_eq_true_eq] at h
 obtain⟨⟨⟨⟨⟨⟨⟨⟨⟨⟨⟨⟨⟨h1,h10⟩,h2⟩,h3⟩,h4⟩,h9⟩,h11⟩,h5⟩,h6⟩,h7⟩,h8⟩,h12⟩,⟨⟨⟨⟨h13,h14⟩,h15⟩,h16⟩,⟨⟨h17,h17a⟩,h17b⟩⟩⟩,⟨⟨h18,h19⟩,h20⟩⟩:=h
 refine⟨h1,fun i o ho e he=>by
  have:=List.all_eq_true.1 h10 (o,i) (by rw[List.mem_zipIdx_iff_getElem?];simpa using ho)
  simpa using List.all_eq_true.1 this e he,fun v hv=>List.all_eq_true.1 h2 v hv,h3,h4,h9,fun c hc=>by simpa using List.all_eq_true.1 h11 c hc,h5,fun i hi=>List.all_eq_true.1 h6 i (List.mem_range.2 hi),fun k hk=>List.all_eq_true.1 h7 k (List.mem_range.2 hk),fun t j hj=>?_,fun s hs=>by
   have:=List.all_eq_true.1 h12 s (List.mem_range.2 (by omega))
   simpa[Bool.and_eq_true] using this,h13,fun i hi hlt j hj=>?_,fun t j hj=>?_,fun i b hal=>?_,fun x hx=>by simpa using List.all_eq_true.1 h17 x hx,h17a,h17b,h18,fun z hz=>by have:=List.all_eq_true.1 h19 z hz;simpa[Bool.and_eq_true] using this,by simpa[Bool.or_eq_true,List.isEmpty_iff] using h20⟩
 · have hlt:t<D.W.length:=by
    unfold Dr.wr at hj
    cases h:D.W[t]? with
    | none=>rw[h] at hj;cases hj
    | some _=>exact (List.getElem?_eq_some_iff.1 h).1
   have:=List.all_eq_true.1 h8 t (List.mem_range.2 hlt)
   rw[hj] at this
   simpa using this
 · have:=List.all_eq_true.1 h14 i (List.mem_range.2 hlt)
   rcases Bool.or_eq_true _ _▸this with h | h
   · have:i<D.L:=by simpa using h
     omega
   · simpa[Bool.or_eq_true] using List.all_eq_true.1 h j (List.mem_range.2 hj)
 · have hlt:t<D.W.length:=by
    unfold Dr.wr at hj
    cases h:D.W[t]? with
    | none=>rw[h] at hj;cases hj
    | some _=>exact (List.getElem?_eq_some_iff.1 h).1
   have:=List.all_eq_true.1 h15 t (List.mem_range.2 hlt)
   rw[hj] at this
   simpa using this
 · rw[hal] at h16
   simp only[Bool.and_eq_true,decide_eq_true_eq] at h16
   obtain⟨⟨⟨k0,k1⟩,k2⟩,k3⟩:=h16
   refine⟨List.isEmpty_iff.1 k0,k1,k2,fun j r hr=>?_⟩
   have:=List.all_eq_true.1 k3 (r,j) (by rw[List.mem_zipIdx_iff_getElem?];simpa using hr)
   simp only[Bool.or_eq_true,beq_iff_eq,List.contains_iff_mem] at this
   rcases this with (h | h) | h
   · exact .inl h
   · exact .inr (.inl h)
   · exact .inr (.inr h)
variable {nw:iy} {ops:Array Oper} {D:Dr}
theorem Eb.le (H:Eb nw P ops D) {k m:Nat} (hk:k≤m) (hm:m≤D.calls.length):(D.n k).le (D.n m)=true:=by
 induction m with
 | zero => obtain rfl:k=0:=by omega
           exact Cnt.le_refl _
 | succ m ih=>
   by_cases e:k=m+1
   · subst e;exact Cnt.le_refl _
   · exact Cnt.le_trans (ih (by omega) (by omega)) (H.mono m (by omega))
structure Zt (nw:iy) (P:Program) (ops:Array Oper) (D:Dr) (i:Nat) (o:Oper) (r:Rec):Prop where
 e:∀ p:Nat→Bool,QP nw P ops o (D.stage i) (D.c i) (D.sees i (D.n (D.stage i)) (D.mem p))=some r
 dst:∀ d,o.dst=some d→D.wr d=some i
 gs:∀ g∈r.gs,∀ q,D.wr g.1=some q→q∈D.pre i
 stage:D.stage i=0∨∃ c,D.calls[D.stage i - 1]? = some c∧c∈D.pre i
 le:D.stage i≤D.calls.length
 irr:i∉D.pre i
 val:∀ s gs g c v,r=.val s gs g c v→i∉D.calls∧s=D.stage i∧g.blw (D.n s)=true∧c.blw (D.n s)=true∧v.blw (D.n s)=true
 tup:∀ l,r=.tup l→i∉D.calls∧l.all (PE.blw (D.n (D.stage i)))=true
 load:∀ s n0 gs g a n x d,r=.load s n0 gs g a n x d→i∉D.calls∧s=D.stage i∧g.blw n0=true∧a.blw n0=true∧x.blw (n0.add d)=true∧(n0.add d).le (D.n s)=true∧n0.le (D.n s)=true
 new:∀ k cs ty sl,r=.new k cs ty sl→D.al=some (i,⟨cs,ty⟩)∧k=D.st.m.length∧i∉D.calls∧cs.all (CE.qA D.st.m.length)=true∧cs.all (CE.blw (D.n (D.stage i)))=true
 al:(∀ k cs ty sl,r≠.new k cs ty sl)→∀ b,D.al≠some (i,b)
 sto:∀ s k off cs,r=.sto s k off cs→s=D.stage i∧i∉D.calls∧∃ b,D.st.m[k]? = some b∧off+cs.length≤b.cells.length∧(i,k,⟨b.cells.take off++cs++b.cells.drop (off+cs.length),b.ty⟩)∈D.sl
 sl:(∀ s k off cs,r≠.sto s k off cs)→∀ x∈D.sl,x.1≠i
 call:∀ k gs g f vas x d,r=.call k gs g f vas x d→k=D.stage i∧D.calls[k]? = some i∧g.blw (D.n k)=true∧x.blw (D.start (k+1))=true∧(k=0∨∃ c,D.calls[k - 1]? = some c∧c∈D.pre i)
 mkS:∀ k cs t len n,r=.mkS k cs t len n→k=D.stage i∧D.calls[k]? = some i∧n=D.n k∧r.ve.blw (D.start (k+1))=true
theorem oH {α:Type} (p:α→Bool):∀ l:List α,l.filter p∈subs l
 | []=>by simp[subs]
 | x::xs=>by
   rw[subs,List.filter_cons]
   split
   · exact List.mem_append_right _ (List.mem_map.2 ⟨_,oH p xs,rfl⟩)
   · exact List.mem_append_left _ (oH p xs)
theorem Ak {b:ou}:∀ {l:List (Nat×Nat×ou)} {m:List ou},b∈jY m l→b∈m∨∃ x∈l,b=x.2.2
 | [],_,h=>.inl h
 | x::xs,m,h=>by
   rcases Ak (l:=xs) (m:=m.set x.2.1 x.2.2) h with h | ⟨y,hy,e⟩
   · rcases List.mem_or_eq_of_mem_set h with h | h
     · exact .inl h
     · exact .inr ⟨x,by simp,h⟩
   · exact .inr ⟨y,by simp[hy],e⟩
theorem Aj {k:Nat}:∀ {l:List (Nat×Nat×ou)} {m:List ou},(∀ x∈l,x.2.1≠k)→(jY m l)[k]? = m[k]?
 | [],_,_=>rfl
 | x::xs,m,h=>by
   show (jY (m.set x.2.1 x.2.2) xs)[k]? = _
   rw[Aj fun y hy=>h y (by simp[hy]),List.getElem?_set_ne (h x (by simp))]
theorem wM {k:Nat} {b:ou}:∀ {l:List (Nat×Nat×ou)} {m:List ou},(∀ x∈l,x.2.1≠k)→jY (m.set k b) l=(jY m l).set k b
 | [],_,_=>rfl
 | x::xs,m,h=>by
   show jY ((m.set k b).set x.2.1 x.2.2) xs=(jY (m.set x.2.1 x.2.2) xs).set k b
   rw[List.set_comm _ _ (fun e=>h x (by simp) e.symm),wM fun y hy=>h y (by simp[hy])]
theorem o7 {i k:Nat} {b:ou} {p q:Nat→Bool} (hq:q i=true) (hp:p i=false) (hne:∀ j,j≠i→q j=p j):∀ {l:List (Nat×Nat×ou)} {m:List ou},(i,k,b)∈l→(l.map (·.1)).Nodup→(l.map (·.2.1)).Nodup→
 jY m (l.filter fun x=>q x.1)=(jY m (l.filter fun x=>p x.1)).set k b
 | [],_,h,_,_=>by cases h
 | x::xs,m,h,h1,h2=>by
   simp only[List.map_cons,List.nodup_cons] at h1 h2
   by_cases hx:x=(i,k,b)
   · subst hx
     have hno:∀ y∈xs,y.1≠i:=fun y hy e=>h1.1 (List.mem_map.2 ⟨y,hy,e⟩)
     have hf:(xs.filter fun x=>q x.1)=xs.filter fun x=>p x.1:=List.filter_congr fun y hy=>hne y.1 (hno y hy)
     rw[List.filter_cons,List.filter_cons]
     simp only[hq,hp,hf,if_true,Bool.false_eq_true,if_false]
     show jY (m.set k b) _=_
     exact wM fun y hy e=>h2.1 (List.mem_map.2 ⟨y,(List.mem_filter.1 hy).1,e⟩)
   · have hm:(i,k,b)∈xs:=(List.mem_cons.1 h).resolve_left (fun e=>hx e.symm)
     have hxi:x.1≠i:=fun e=>h1.1 (List.mem_map.2 ⟨_,hm,e.symm⟩)
     rw[List.filter_cons,List.filter_cons,hne x.1 hxi]
     split
     · exact o7 hq hp hne (m:=m.set x.2.1 x.2.2) hm h1.2 h2.2
     · exact o7 hq hp hne hm h1.2 h2.2
theorem Eb.op (H:Eb nw P ops D) {i:Nat} (hi:i<D.L):∃ o r,ops[i]? = some o∧D.recs[i]? = some r∧Zt nw P ops D i o r:=by
 have h:=H.at' i hi
 unfold Dr.okAt at h
 split at h
 · rename_i o r ho hr
   simp only[Bool.and_eq_true,decide_eq_true_eq] at h
   obtain⟨⟨⟨⟨⟨⟨⟨⟨h1,h2⟩,h3⟩,h4⟩,h5⟩,h6⟩,h7⟩,h8⟩,h9⟩:=h
   refine⟨o,r,ho,hr,fun p=>of_decide_eq_true (List.all_eq_true.1 h1 _ (oH (fun x=>p x.1) D.sl)),?_,?_,?_,h6,by simpa using h7,?_,?_,?_,?_,?_,?_,?_,?_,?_⟩
   · intro d hd;rw[hd] at h2;simpa using h2
   · intro g hg q hq
     have:=List.all_eq_true.1 h3 g hg
     rw[hq] at this
     simpa using this
   · rcases Bool.or_eq_true _ _▸h5 with h | h
     · exact .inl (by simpa using h)
     · right
       split at h
       · rename_i c hc;exact⟨c,hc,by simpa using h⟩
       · cases h
   · rintro s gs g c v rfl
     simp only[Bool.and_eq_true,decide_eq_true_eq] at h4
     exact⟨by simpa using h4.1.1.1.1,h4.1.1.1.2,h4.1.1.2,h4.1.2,h4.2⟩
   · rintro l rfl
     simp only[Bool.and_eq_true] at h4
     exact⟨by simpa using h4.1,h4.2⟩
   · rintro s n0 gs g a n x d rfl
     simp only[Bool.and_eq_true,decide_eq_true_eq] at h4
     obtain⟨⟨⟨⟨⟨⟨q1,q2⟩,q3⟩,q4⟩,q5⟩,q6⟩,q7⟩:=h4
     exact⟨by simpa using q1,q2,q3,q4,q5,q6,q7⟩
   · rintro k cs ty sl rfl
     simp only[Bool.and_eq_true,decide_eq_true_eq] at h4
     obtain⟨⟨⟨⟨q1,q2⟩,q3⟩,q4⟩,q5⟩:=h4
     exact⟨q1,q2,by simpa using q3,q4,q5⟩
   · intro hne b hal
     split at h8
     · exact hne _ _ _ _ rfl
     · rw[decide_eq_true_eq] at h8
       exact h8 (by rw[hal];rfl)
   · rintro s k off cs rfl
     simp only[Bool.and_eq_true,decide_eq_true_eq] at h4
     obtain⟨⟨q1,q2⟩,q3⟩:=h4
     refine⟨q1,by simpa using q2,?_⟩
     split at q3
     · rename_i b hb
       simp only[Bool.and_eq_true,decide_eq_true_eq] at q3
       exact⟨b,hb,q3.1,by simpa using q3.2⟩
     · cases q3
   · intro hne x hsl
     split at h9
     · exact absurd rfl (hne _ _ _ _)
     · simpa using List.all_eq_true.1 h9 x hsl
   · rintro k gs g f vas x d rfl
     simp only[Bool.and_eq_true,decide_eq_true_eq] at h4
     obtain⟨⟨⟨⟨q1,q2⟩,q4⟩,q5⟩,q6⟩:=h4
     refine⟨q1,q2,q4,q5,?_⟩
     rcases Bool.or_eq_true _ _▸q6 with h | h
     · exact .inl (by simpa using h)
     · right
       split at h
       · rename_i c hc;exact⟨c,hc,by simpa using h⟩
       · cases h
   · rintro k cs t len n rfl
     simp only[Bool.and_eq_true,decide_eq_true_eq] at h4
     obtain⟨⟨⟨q1,q2⟩,q3⟩,q4⟩:=h4
     exact⟨q1,q2,q3,q4⟩
 · cases h
theorem wS {s:Nat} {e:Cnt} {k:Fm}:∀ (rs:List Rec) (c:Cnt) (C:Ctx),Has C c→dZ C.v→jF s rs c e=true→
 (∀ n0 gs g a n x d,Rec.load s n0 gs g a n x d∈rs→g.blw n0=true∧a.blw n0=true∧x.blw (n0.add d)=true∧x.plain=true)→(kU s rs k).says E C→
 ∃ C',Ext C C'∧Has C' e∧dZ C'.v∧C'.h=C.h∧k.says E C'∧∀ n0 gs g a n x d,Rec.load s n0 gs g a n x d∈rs→g.den C'=true→hread C'.h (a.den C') n=some (x.cells.map (CE.den C' aP)):=by
 intro rs
 induction rs with
 | nil=>
   intro c C hC ho hch _ h
   simp only[jF,decide_eq_true_eq] at hch
   subst hch
   exact⟨C,Ext.refl C,hC,ho,rfl,h,fun _ _ _ _ _ _ _ h=>by cases h⟩
 | cons r rs ih=>
   intro c C hC ho hch hb h
   have skip:(∀ n0 gs g a n x d,r≠Rec.load s n0 gs g a n x d)→jF s rs c e=true→(kU s rs k).says E C→
    ∃ C',Ext C C'∧Has C' e∧dZ C'.v∧C'.h=C.h∧k.says E C'∧∀ n0 gs g a n x d,Rec.load s n0 gs g a n x d∈r::rs→g.den C'=true→hread C'.h (a.den C') n=some (x.cells.map (CE.den C' aP)):=by
    intro hne hch h
    obtain⟨C',h1,h2,h3,h4,h5,h6⟩:=ih c C hC ho hch (fun n0 gs g a n x d hm=>hb n0 gs g a n x d (List.mem_cons_of_mem _ hm)) h
    refine⟨C',h1,h2,h3,h4,h5,fun n0 gs g a n x d hm=>?_⟩
    rcases List.mem_cons.1 hm with e | hm
    · exact absurd e.symm (hne _ _ _ _ _ _ _)
    · exact h6 n0 gs g a n x d hm
   cases r with
   | val=>exact skip (fun _ _ _ _ _ _ _ e=>by cases e) hch h
   | tup=>exact skip (fun _ _ _ _ _ _ _ e=>by cases e) hch h
   | call=>exact skip (fun _ _ _ _ _ _ _ e=>by cases e) hch h
   | new=>exact skip (fun _ _ _ _ _ _ _ e=>by cases e) hch h
   | sto=>exact skip (fun _ _ _ _ _ _ _ e=>by cases e) hch h
   | mkS=>exact skip (fun _ _ _ _ _ _ _ e=>by cases e) hch h
   | load s' n0 gs g a n x d=>
     by_cases hs:s'=s
     · subst hs
       rw[jF,if_pos rfl,Bool.and_eq_true,decide_eq_true_eq] at hch
       obtain⟨rfl,hch⟩:=hch
       rw[kU,if_pos rfl] at h
       obtain⟨hy,hno⟩:=h
       obtain⟨b1,b2,b3,b4⟩:=hb n0 gs g a n x d (by simp)
       have next:∀ y:Inc,y.cnt=d→dZ y.v→(g.den C=true→hread C.h (a.den C) n=some (x.cells.map (CE.den (C.push y) aP)))→(kU s' rs k).says E (C.push y)→
        ∃ C',Ext C C'∧Has C' e∧dZ C'.v∧C'.h=C.h∧k.says E C'∧∀ n0' gs' g' a' n' x' d',Rec.load s' n0' gs' g' a' n' x' d'∈Rec.load s' n0 gs g a n x d::rs→g'.den C'=true→hread C'.h (a'.den C') n'=some (x'.cells.map (CE.den C' aP)):=by
        intro y hyc hyo hread hk
        obtain⟨C',h1,h2,h3,h4,h5,h6⟩:=ih (n0.add d) (C.push y) (hC.push (by rw[hyc])) (gV ho hyo) hch (fun n0 gs g a n x d hm=>hb n0 gs g a n x d (List.mem_cons_of_mem _ hm)) hk
        refine⟨C',(Ext.push C y).trans h1,h2,h3,h4,h5,fun n0' gs' g' a' n' x' d' hm hg=>?_⟩
        rcases List.mem_cons.1 hm with e | hm
        · cases e
          have A0:Ea n0 C C':=((Ext.push C y).trans h1).Ed hC
          have A1:Ea (n0.add d) (C.push y) C':=h1.Ed (hC.push (by rw[hyc]))
          rw[← BE.aG A0 g b1] at hg
          have:=hread hg
          rw[h4,← AE.aG A0 a b2,← jb A1 aP x.cells b3]
          exact this
        · exact h6 n0' gs' g' a' n' x' d' hm hg
       cases hg:g.den C
       · refine next (Inc.blank d) (by simp[Inc.blank,Inc.cnt]) (fun u hu=>by rw[List.eq_of_mem_replicate hu];rfl) (fun h=>by rw[hg] at h;cases h) (hno hg)
       · have:=hy hg
         rw[ah] at this
         obtain⟨y,hyc,hyo,hread,hk⟩:=this
         exact next y hyc hyo (fun _=>hread) hk
     · rw[jF,if_neg hs] at hch
       rw[kU,if_neg hs] at h
       exact skip (fun _ _ _ _ _ _ _ e=>by cases e;exact hs rfl) hch h
theorem Iq {h k:Hp} (hl:dm h k) {x:Option (Nat×Nat)} {n:Nat} {cs:List Value} (hr:hread h x n=some cs):hread k x n=some cs:=by
 unfold hread at hr⊢
 split at hr
 · split at hr
   · rename_i o ho
     rw[hl _ _ ho]
     exact hr
   · cases hr
 · cases hr
structure Inv (E:Env) (B:Nat) (h0:Hp) (w0:World) (D:Dr) (C0:Ctx) (K:Fm) (nw:iy) (P:Program) (ops:Array Oper) (listed:Array Bool) (ρ:Nat→Nat) (C:Ctx) (s:Nat) (a:Act) (w:World):Prop where
 size:listed.size=ops.size
 low:∀ j,D.L≤j→listed.getD j false=false
 closed:∀ j,listed.getD j false=true→∀ i∈D.pre j,listed.getD i false=true
 calls:∀ k c,D.calls[k]? = some c→(listed.getD c false=true↔k<s)
 le:s≤D.calls.length
 ext:Ext C0 C
 needs:∀ (i s':Nat) (gs:Gs) (g c:BE) (v:PE),D.recs[i]? = some (Rec.val s' gs g c v)→s'≤s→g.den C=true→c.den C=true
 loads:∀ (i s':Nat) (n0:Cnt) (gs:Gs) (g:BE) (a:AE) (n:Nat) (x:PE) (d:Cnt),D.recs[i]? = some (Rec.load s' n0 gs g a n x d)→s'≤s→g.den C=true→hread C.h (a.den C) n=some (x.cells.map (CE.den C aP))
 rest:(D.rest K s).says E C
 rep:Rep B h0 w0 ρ (D.at (fun j=>listed.getD j false) (D.n s)) C a w
theorem bK {l:Array Bool} {i j:Nat} (hi:i<l.size):(l.setIfInBounds i true).getD j false=true↔(j=i∨l.getD j false=true):=by
 simp only[Array.getD_eq_getD_getElem?]
 by_cases h:i=j
 · subst h;simp[hi]
 · rw[Array.getElem?_setIfInBounds_ne h]
   constructor
   · exact .inr
   · rintro (h' | h')
     · exact absurd h'.symm h
     · exact h'
theorem lm {listed:Array Bool} {i:Nat} (h:i∈Region.ready .any ops listed):i<ops.size∧listed.getD i true=false∧∀ o,ops[i]? = some o→∀ e∈direct o,listed.getD e false=true:=by
 unfold Region.ready at h
 simp only[List.mem_filter,List.mem_range,Bool.and_eq_true,Bool.not_eq_true'] at h
 obtain⟨h1,h2,h3⟩:=h
 refine⟨h1,h2,fun o ho e he=>?_⟩
 rw[ho] at h3
 simp only[Option.map_some,Option.getD_some] at h3
 unfold direct at he
 simp only[List.mem_filterMap] at he
 obtain⟨ed,hed,hh⟩:=he
 split at hh
 · rename_i hb
   cases hh
   have:=Array.all_eq_true_iff_forall_mem.1 h3 ed (Array.mem_toList_iff.1 hed)
   simpa[hb] using this
 · cases hh
theorem J4 {t:Nat} {v:VE} {listed:Nat→Bool} {n:Cnt} (h:(D.at listed n).t[t]? = some v):∃ u,D.st.t[t]? = some u∧v=(match D.wr t with | some j=>if listed j then D.ve j else u | none=>u):=by
 simp only[Dr.at,jO,Option.map_eq_some_iff] at h
 obtain⟨u,hu,rfl⟩:=h
 exact⟨u,hu,rfl⟩
theorem U8 {listed:Array Bool} {i:Nat} {n m:Cnt} (R:Rep B h0 w0 ρ (D.at (fun j=>listed.getD j false) n) C a w) (hcl:∀ j,listed.getD j false=true→∀ i∈D.pre j,listed.getD i false=true)
 (hpre:∀ j∈D.pre i,listed.getD j false=true) (hi:listed.getD i false=false):Rep B h0 w0 ρ { D.sees i m (D.mem fun j=>listed.getD j false) with n:=n } C a w:=by
 have hm:∃ x,(D.at (fun j=>listed.getD j false) n).m=(D.sees i m (D.mem fun j=>listed.getD j false)).m++x:=by
  simp only[Dr.at,Dr.sees,Dr.mad]
  cases hal:D.al with
  | none=>exact⟨[],by simp⟩
  | some y=>
    obtain⟨j,b⟩:=y
    simp only
    by_cases hc:(D.pre i).contains j=true
    · have hj:=hpre j (by simpa using hc)
      rw[if_pos hc,if_pos hj]
      exact⟨[],by simp⟩
    · rw[if_neg hc,List.append_nil]
      exact⟨_,rfl⟩
 obtain⟨x,hm⟩:=hm
 refine zX (t':=(D.sees i m (D.mem fun j=>listed.getD j false)).t) (QR R (m':=(D.sees i m (D.mem fun j=>listed.getD j false)).m) hm) (by simp[Dr.sees,Dr.at,mM]) fun t v hv=>?_
 simp only[Dr.sees,jO,Option.map_eq_some_iff] at hv
 obtain⟨u,hu,rfl⟩:=hv
 simp only[Dr.at,jO,hu,Option.map_some,Option.some.injEq]
 cases hw:D.wr t with
 | none=>right;rfl
 | some j=>
   simp only
   by_cases h1:(D.pre i).contains j=true
   · right
     rw[if_pos h1,if_pos (hpre j (by simpa using h1))]
   · rw[if_neg h1]
     by_cases h2:(D.pre j).contains i=true
     · right
       rw[if_pos h2]
       by_cases h3:listed.getD j false=true
       · have:=hcl j h3 i (by simpa using h2)
         rw[this] at hi;cases hi
       · rw[if_neg h3]
     · left;rw[if_neg h2]
theorem JL {r:Rec} {d:Nat} (h:∀ g∈r.gs,g.1≠d):r.ve.names d=false:=by
 have hw:∀ (gs:Gs) (x:PE),(∀ g∈gs,g.1≠d)→(jg gs x).names d=false:=by
  intro gs x hg
  unfold jg
  split
  · rfl
  · simp only[VE.names,List.any_eq_false,beq_iff_eq]
    exact hg
 cases r with
 | val s gs g c v=>exact hw gs v h
 | tup l=>rfl
 | load s n0 gs g a n x d'=>exact hw gs x h
 | new k cs ty sl=>rfl
 | sto=>rfl
 | mkS=>rfl
 | call k gs g f vas x d'=>
   show (xZ gs x).names d=false
   unfold xZ
   split
   · exact hw gs _ h
   · rfl
   · rfl
theorem ZK {listed:Array Bool} {i:Nat} (h:∀ x∈D.sl,x.1≠i):D.mem (fun j=>(listed.setIfInBounds i true).getD j false)=D.mem (fun j=>listed.getD j false):=by
 unfold Dr.mem
 congr 1
 refine List.filter_congr fun x hx=>?_
 have hji:i≠x.1:=fun e=>h x hx e.symm
 simp only[Array.getD_eq_getD_getElem?,Array.getElem?_setIfInBounds_ne hji]
theorem Zw {listed:Array Bool} {i:Nat} {n:Cnt} (h:∀ b,D.al≠some (i,b)) (h':∀ x∈D.sl,x.1≠i):(D.at (fun j=>(listed.setIfInBounds i true).getD j false) n).m=(D.at (fun j=>listed.getD j false) n).m:=by
 unfold Dr.at
 simp only[ZK h']
 congr 1
 cases hD:D.al with
 | none=>rfl
 | some x=>
   obtain⟨j,b⟩:=x
   have hji:i≠j:=fun e=>h b (by rw[hD,e])
   simp only[Array.getD_eq_getD_getElem?,Array.getElem?_setIfInBounds_ne hji]
theorem Yh {st:St} {m':List ou} (h:m'=st.m) (R:Rep B h0 w0 ρ st C a w):Rep B h0 w0 ρ { st with m:=m' } C a w:=by subst h;exact R
theorem OV {listed:Array Bool} {i:Nat} {o:Oper} {r:Rec} {n:Cnt} {u:Value} (H:Eb nw P ops D) (O:Zt nw P ops D i o r) (hr:D.recs[i]? = some r) (ho:ops[i]? = some o) (hsz:listed.size=ops.size) (hlt:i<ops.size)
 (R:Rep B h0 w0 ρ { D.at (fun j=>listed.getD j false) n with m:=(D.at (fun j=>(listed.setIfInBounds i true).getD j false) n).m } C a w) (hcl:∀ j,listed.getD j false=true→∀ i∈D.pre j,listed.getD i false=true) (hi:listed.getD i false=false)
 (hv:r.ve.holds C ρ a.tmps u):Rep B h0 w0 ρ (D.at (fun j=>(listed.setIfInBounds i true).getD j false) n) C (a.put o.dst u) w:=by
 have hvei:D.ve i=r.ve:=by unfold Dr.ve;rw[hr]
 have h1:=R.size
 simp only[Dr.at,mM] at h1
 refine⟨by cases o.dst<;>exact R.defers,?_,?_,R.blocks,R.fresh,R.inj,R.free,R.holds,R.fr,R.base,R.ci,R.cb,R.cs,R.cv,R.cl,R.cp,R.ones⟩
 · simp only[Dr.at,mM]
   cases o.dst<;>simp[Act.put,h1]
 · intro t v ht
   obtain⟨y,hy,rfl⟩:=J4 ht
   have hget:(D.at (fun j=>listed.getD j false) n).t[t]? = some (match D.wr t with | some j=>if listed.getD j false then D.ve j else y | none=>y):=by
    simp only[Dr.at,jO,hy];rfl
   have hhold:=R.slots t _ hget
   by_cases hdt:o.dst=some t
   · have hw:=O.dst t hdt
     rw[hw]
     simp only
     rw[if_pos ((bK (by omega)).2 (.inl rfl)),hvei,hdt]
     have hts:t<a.tmps.size:=by
      have:=(List.getElem?_eq_some_iff.1 hy).1
      omega
     show r.ve.holds C ρ (a.tmps.setIfInBounds t u) ((a.tmps.setIfInBounds t u).getD t undef)
     rw[lL hts]
     exact pV (JL fun g hg e=>O.irr (O.gs g hg i (by rw[e];exact hw))) hv
   · have hys:∀ d,y.names d=false:=fun d=>by
      have:=H.still y (List.mem_of_getElem? hy)
      cases y with
      | wg gs x=>cases this
      | _=>rfl
     have hsame:∀ j,D.wr t=some j→((listed.setIfInBounds i true).getD j false=listed.getD j false):=by
      intro j hj
      have hji:j≠i:=by
       rintro rfl
       have:=H.wr t j hj
       rw[ho] at this
       exact hdt this
      have:=bK (l:=listed) (i:=i) (j:=j) (by omega)
      cases hq:listed.getD j false
      · rw[hq] at this
        cases hq2:(listed.setIfInBounds i true).getD j false
        · rfl
        · rcases this.1 hq2 with h | h
          · exact absurd h hji
          · cases h
      · exact this.2 (.inr hq)
     have hval:(match D.wr t with | some j=>if (listed.setIfInBounds i true).getD j false then D.ve j else y | none=>y)=(match D.wr t with | some j=>if listed.getD j false then D.ve j else y | none=>y):=by
      cases hw:D.wr t with
      | none=>rfl
      | some j=>simp only;rw[hsame j hw]
     rw[hval]
     cases hd:o.dst with
     | none=>exact hhold
     | some d=>
       have hne:d≠t:=fun e=>hdt (by rw[hd,e])
       show VE.holds C ρ (a.tmps.setIfInBounds d u) ((a.tmps.setIfInBounds d u).getD t undef) _
       rw[getD_set_ne hne]
       refine pV ?_ hhold
       cases hw:D.wr t with
       | none=>exact hys d
       | some j=>
         simp only
         split
         · rename_i hlj
           unfold Dr.ve
           cases hrj:D.recs[j]? with
           | none=>rfl
           | some rj=>
             have hj:j<D.L:=by rw[← H.len];exact (List.getElem?_eq_some_iff.1 hrj).1
             obtain⟨oj,rj',_,hrj',Oj⟩:=H.op hj
             rw[hrj] at hrj'
             cases hrj'
             refine JL fun g hg e=>?_
             have:=Oj.gs g hg i (by rw[e];exact O.dst d hd)
             have:=hcl j hlj i this
             rw[this] at hi;cases hi
         · exact hys d
theorem MK {o:Oper} {s:Nat} {n0:Cnt} {M:St} {r:Rec} (h:QP nw P ops o s n0 M=some r):∃ gs g,guardOf M ops o=some gs∧oI M [] gs=some g∧
 ((∃ f vas x n,uf nw P M gs o=some (f,vas,x,n)∧vas.all PE.plain=true∧x.plain=true∧M.n.add (n.sub M.n)=n∧((∃ p,x=.p p)∨(∃ l,x=.tup l)∧gs=[])∧r=.call s gs g f vas x (n.sub M.n))∨
  (∃ l,uw M o.op=some l∧gs=[]∧r=.tup l)∨(∃ c v,oZ nw P M gs o.op=some (c,v)∧r=.val s gs g c v)∨
  (∃ t x ad y,∃ n:Cnt,∃ sz d,o.op=.load t x∧(gW M gs x).bind rJ=some ad∧bU P t=some sz∧P.underlying t=some d∧y.plain=true∧y.cells.length=sz∧y.Gf P t=true∧r=.load s n0 gs g ad sz y (n.sub n0))∨
  (∃ cs t sl,qZ P M gs o.op=some (cs,t,sl)∧gs=[]∧r=.new M.m.length cs t sl)∨
  (∃ t x y k off p n,o.op=.store t x y∧gW M gs x=some (.one (.own k off))∧gW M gs y=some p∧bU P t=some n∧gs=[]∧p.cells.all (CE.sto M.n)=true∧p.cells.length=n∧r=.sto s k off p.cells)∨
  (∃ cs t len,jI P M [] o.op=some (cs,t,len)∧cs.all CE.plain=true∧gs=[]∧r=.mkS s cs t len M.n)):=by
 unfold QP at h
 split at h
 · cases h
 · rename_i gs hgs
   split at h
   · cases h
   · rename_i g hg
     refine⟨gs,g,hgs,hg,?_⟩
     split at h
     · rename_i t ad hkl
       right;right;right;left
       unfold C9 at hkl
       split at hkl
       · rename_i t' x hop
         split at hkl
         · rename_i ad' hx
           cases hkl
           split at h
           · rename_i y n sz d hy hsz hd
             split at h
             · rename_i hck
               simp only[Bool.and_eq_true,decide_eq_true_eq] at hck
               obtain⟨⟨⟨k1,k2⟩,k3⟩,k4⟩:=hck
               exact⟨t,x,ad,y,n,sz,d,hop,hx,hsz,hd,k1,k3,k4,by cases h;rfl⟩
             · cases h
           · cases h
         · cases hkl
       · cases hkl
     · split at h
       · rename_i cs t len hmk
         right;right;right;right;right;right
         unfold ZL at hmk
         split at hmk
         · rename_i hck
           obtain⟨_,rfl⟩:=hck
           split at hmk
           · rename_i hsl
             split at hmk
             · rename_i hpl
               cases hmk
               exact⟨_,_,_,hsl,hpl,rfl,by cases h;rfl⟩
             · cases hmk
           · cases hmk
         · cases hmk
       split at h
       · rename_i f vas x n hvx
         left
         split at h
         · rename_i hck
           simp only[Bool.and_eq_true,decide_eq_true_eq] at hck
           obtain⟨⟨⟨k2,k3⟩,k4⟩,k5⟩:=hck
           refine⟨_,_,_,_,hvx,k2,k3,k4,?_,by cases h;rfl⟩
           unfold okR at k5
           split at k5
           · exact .inl ⟨_,rfl⟩
           · exact .inr ⟨⟨_,rfl⟩,by simpa using k5⟩
           · cases k5
         · cases h
       split at h
       · rename_i t x y ho
         right;right;right;right;right;left
         split at h
         · rename_i k off p n hx hy hn
           split at h
           · rename_i hck
             exact⟨t,x,y,k,off,p,n,ho,hx,hy,hn,hck.1,hck.2.1,hck.2.2,by cases h;rfl⟩
           · cases h
         · cases h
       · split at h
         · rename_i cs t sl hnew
           right;right;right;right;left
           split at h
           · rename_i hck
             exact⟨cs,t,sl,hnew,hck.1,by cases h;rfl⟩
           · cases h
         · right
           unfold ZX at h
           split at h
           · rename_i l hl
             split at h
             · rename_i hg0
               left
               exact⟨l,hl,hg0,by cases h;rfl⟩
             · cases h
           · right;left
             simp only[Option.map_eq_some_iff] at h
             obtain⟨⟨c,v⟩,hp,rfl⟩:=h
             exact⟨c,v,hp,rfl⟩
theorem DU {K:Fm} {s c:Nat} (h:D.calls[s]? = some c):D.rest K s=(match D.recs[c]? with
 | some (.call _ _ g f vas r d)=>Gu (yU s D.recs) g f vas r d (AX D.recs K (D.calls.drop (s+1)) (s+1))
 | some (.mkS _ ces t len _)=>.mk ces t len (AX D.recs K (D.calls.drop (s+1)) (s+1))
 | _=>.ff):=by
 have hlt:=(List.getElem?_eq_some_iff.1 h).1
 unfold Dr.rest
 rw[List.drop_eq_getElem_cons hlt]
 have:D.calls[s]=c:=by rw[List.getElem?_eq_getElem hlt] at h;exact Option.some.inj h
 rw[this]
 rfl
theorem Kq {ks:List (BE×AE×Nat)} {g:BE} {f:FuncId} {vas:List PE} {r:VE} {d:Cnt} {k:Fm} (h:(Gu ks g f vas r d k).says E C):
 (g.den C=true→E.spec f (vas.map (PE.den C aP)) C.h fun v h=>(∀ x∈ks,x.1.den C=true→hread h (x.2.1.den C) x.2.2=hread C.h (x.2.1.den C) x.2.2)∧iM d fun x=>v=r.den (C.push x) aP∧k.says E ((C.push x).heap h))∧(g.den C=false→k.says E (C.push (Inc.blank d))):=by
 unfold Gu at h
 split at h
 · rename_i he
   subst he
   refine⟨fun hg=>?_,h.2⟩
   have h1:=h.1 hg
   have e:(fun (v:Value) (h:Hp)=>(false=true→dm C.h h)∧iM d fun x=>v=r.den (C.push x) aP∧k.says E ((C.push x).heap h))=fun v h=>(∀ x∈([]:List (BE×AE×Nat)),x.1.den C=true→hread h (x.2.1.den C) x.2.2=hread C.h (x.2.1.den C) x.2.2)∧iM d fun x=>v=r.den (C.push x) aP∧k.says E ((C.push x).heap h):=by
    funext v h
    apply propext
    constructor
    · exact fun hh=>⟨fun _ hx=>(by cases hx),hh.2⟩
    · exact fun hh=>⟨fun hx=>(by cases hx),hh.2⟩
   rw[← e]
   exact h1
 · exact h
theorem Gl {K:Fm} (s:Nat):AX D.recs K (D.calls.drop s) s=kU s D.recs (oK s D.recs (D.rest K s)):=by
 unfold Dr.rest
 cases D.calls.drop s with
 | nil=>rfl
 | cons c cs=>rfl
theorem Eb.looks (H:Eb nw P ops D) {s:Nat}:∀ n0 gs g a n x d,Rec.load s n0 gs g a n x d∈D.recs→g.blw n0=true∧a.blw n0=true∧x.blw (n0.add d)=true∧x.plain=true:=by
 intro n0 gs g a n x d hm
 obtain⟨i,hi⟩:=List.getElem?_of_mem hm
 have hlt:i<D.L:=by rw[← H.len];exact (List.getElem?_eq_some_iff.1 hi).1
 obtain⟨o,r,ho,hr,O⟩:=H.op hlt
 rw[hi] at hr
 cases hr
 obtain⟨_,_,q3,q4,q5,_⟩:=O.load _ _ _ _ _ _ _ _ rfl
 refine⟨q3,q4,q5,?_⟩
 obtain⟨gs',g',_,_,hc⟩:=MK (O.e fun _=>true)
 rcases hc with ⟨_,_,_,_,_,_,_,_,_,h⟩ | ⟨_,_,_,h⟩ | ⟨_,_,_,h⟩ | ⟨_,_,_,_,_,_,_,_,_,_,_,hp,_,_,h⟩ | ⟨_,_,_,_,_,h⟩ | ⟨_,_,_,_,_,_,_,_,_,_,_,_,_,_,h⟩ | ⟨_,_,_,_,_,_,h⟩
 · cases h
 · cases h
 · cases h
 · cases h;exact hp
 · cases h
 · cases h
 · cases h
theorem qK (M:St) (n:Cnt) (gs:Gs) (x:Operand):gW { M with n:=n } gs x=gW M gs x:=by
 cases x<;>rfl
theorem Xl (M:St) (n:Cnt) (gs:Gs) (op:Op):oZ nw P { M with n:=n } gs op=oZ nw P M gs op:=by
 have h2:∀ l:List (Nat×Operand),iU { M with n:=n } gs l=iU M gs l:=by
  intro l
  induction l with
  | nil=>rfl
  | cons x l ih=>obtain⟨i,x⟩:=x;simp only[iU,ih,qK]
 have h3:∀ t p,wE P { M with n:=n } t p=wE P M t p:=fun t p=>rfl
 have h4:∀ s,o8 { M with n:=n } gs s=o8 M gs s:=fun s=>rfl
 have h5:∀ x,L9 { M with n:=n } gs x=L9 M gs x:=fun x=>by cases x<;>simp only[L9,qK]
 have h6:∀ l:List Operand,MG { M with n:=n } gs l=MG M gs l:=by
  intro l
  induction l with
  | nil=>rfl
  | cons x l ih=>simp only[MG,ih,qK]
 unfold oZ
 simp only[qK,h2,h3,h4,h5,h6]
theorem Uh (M:St) (n:Cnt) (gs:Gs) (op:Op):qZ P { M with n:=n } gs op=qZ P M gs op:=by
 have h2:∀ l:List (Nat×Operand),iU { M with n:=n } gs l=iU M gs l:=by
  intro l
  induction l with
  | nil=>rfl
  | cons x l ih=>obtain⟨i,x⟩:=x;simp only[iU,ih,qK]
 unfold qZ zx jI
 simp only[qK,h2]
theorem QZ (M:St) (n:Cnt) (gs:Gs) (op:Op):jI P { M with n:=n } gs op=jI P M gs op:=by
 have h2:∀ l:List (Nat×Operand),iU { M with n:=n } gs l=iU M gs l:=by
  intro l
  induction l with
  | nil=>rfl
  | cons x l ih=>obtain⟨i,x⟩:=x;simp only[iU,ih,qK]
 unfold jI
 simp only[h2]
theorem Iw (hE:Good P E) (H:Eb nw P ops D) {C0:Ctx} {K:Fm} {listed:Array Bool} {s:Nat} (I:Inv E B h0 w0 D C0 K nw P ops listed ρ C s a w) {i:Nat} (hr:i∈Region.ready .any ops listed) (hiL:i<D.L) {Q:Exit→Act→World→Prop}:
 wpOp P ops Q i (fun a' w'=>∃ ρ' C' s',Inv E B h0 w0 D C0 K nw P ops (listed.setIfInBounds i true) ρ' C' s' a' w') a w:=by
 obtain⟨hlt,hnot,hdir⟩:=lm hr
 obtain⟨o,r,ho,hrec,O⟩:=H.op hiL
 have hsz:=I.size
 have hi:listed.getD i false=false:=by
  have:i<listed.size:=by omega
  rw[Array.getD_eq_getD_getElem?,Array.getElem?_eq_getElem this] at hnot⊢
  exact hnot
 have hpre:∀ j∈D.pre i,listed.getD j false=true:=by
  intro j hj
  unfold Dr.pre at hj
  rw[H.tab] at hj
  obtain⟨o',ho',hh⟩:=mW ops.toList [] i (Nat.zero_le _) j hj
  have hoo:o'=o:=by
   simp only[List.length_nil,Nat.sub_zero] at ho'
   rw[Array.getElem?_toList,ho] at ho'
   exact (Option.some.inj ho').symm
  subst hoo
  rcases hh with h | ⟨e,he,hx⟩
  · exact hdir o' ho j h
  · refine I.closed e (hdir o' ho e he) j ?_
    unfold Dr.pre
    rw[H.tab];exact hx
 have hstage:D.stage i≤s:=by
  rcases O.stage with h | ⟨c,hc,hm⟩
  · omega
  · have:=(I.calls _ c hc).1 (hpre c hm)
    omega
 have hblwAt:(D.at (fun j=>listed.getD j false) (D.n s)).blw=true:=by
  have hb:=H.blw
  simp only[St.blw,Bool.and_eq_true] at hb⊢
  have h0s:D.st.n.le (D.n s)=true:=Cnt.le_trans H.n0 (H.le (Nat.zero_le _) I.le)
  refine⟨List.all_eq_true.2 fun v hv=>?_,List.all_eq_true.2 fun b hb'=>List.all_eq_true.2 fun c hc=>?_⟩
  rotate_left
  · have hb'':b∈D.mem (fun j=>listed.getD j false)++(match D.al with | some (i,b)=>if listed.getD i false then [b] else [] | none=>[]):=hb'
    rcases List.mem_append.1 hb'' with hb' | hb'
    · have old:∀ b'∈D.st.m,∀ c∈b'.cells,c.blw (D.n s)=true:=fun b' hb' c hc=>CE.aJ h0s c (List.all_eq_true.1 (List.all_eq_true.1 hb.2 b' hb') c hc)
      rcases Ak hb' with hb' | ⟨x,hx,rfl⟩
      · exact old b hb' c hc
      · obtain⟨hxs,hla⟩:=List.mem_filter.1 hx
        obtain⟨oa,ra,_,hra,Oa⟩:=H.op (H.slOk x hxs)
        have hsta:D.stage x.1≤s:=by
         rcases Oa.stage with h | ⟨c,hc,hm⟩
         · omega
         · have:=(I.calls _ c hc).1 (I.closed x.1 hla c hm)
           omega
        cases ra with
        | sto s' k' off cs=>
          obtain⟨_,_,b0,q0,_,q2⟩:=Oa.sto _ _ _ _ rfl
          have hxe:x=(x.1,k',⟨b0.cells.take off++cs++b0.cells.drop (off+cs.length),b0.ty⟩):=by
           obtain⟨p1,hp1⟩:=List.getElem?_of_mem hxs
           obtain⟨p2,hp2⟩:=List.getElem?_of_mem q2
           have e1:(D.sl.map (·.1))[p1]? = some x.1:=by rw[List.getElem?_map,hp1];rfl
           have e2:(D.sl.map (·.1))[p2]? = some x.1:=by rw[List.getElem?_map,hp2];rfl
           have:p1=p2:=(List.getElem?_inj (List.getElem?_eq_some_iff.1 e1).1 H.slN).1 (by rw[e1,e2])
           subst this
           rw[hp1] at hp2
           exact Option.some.inj hp2
          rw[hxe] at hc
          simp only at hc
          rcases List.mem_append.1 hc with hc | hc
          · rcases List.mem_append.1 hc with hc | hc
            · exact old b0 (List.mem_of_getElem? q0) c (List.mem_of_mem_take hc)
            · obtain⟨_,_,_,_,hca⟩:=MK (Oa.e fun _=>true)
              rcases hca with ⟨_,_,_,_,_,_,_,_,_,h⟩ | ⟨_,_,_,h⟩ | ⟨_,_,_,h⟩ | ⟨_,_,_,_,_,_,_,_,_,_,_,_,_,_,h⟩ | ⟨_,_,_,_,_,h⟩ | ⟨_,_,_,_,_,p,_,_,_,_,_,_,hst,_,h⟩ | ⟨_,_,_,_,_,_,h⟩
              · cases h
              · cases h
              · cases h
              · cases h
              · cases h
              · cases h
                have:=List.all_eq_true.1 hst c hc
                simp only[CE.sto,Bool.and_eq_true] at this
                exact CE.aJ (H.le hsta I.le) c this.1.1
              · cases h
          · exact old b0 (List.mem_of_getElem? q0) c (List.mem_of_mem_drop hc)
        | val=>exact absurd rfl (Oa.sl (fun _ _ _ _ e=>by cases e) x hxs)
        | tup=>exact absurd rfl (Oa.sl (fun _ _ _ _ e=>by cases e) x hxs)
        | call=>exact absurd rfl (Oa.sl (fun _ _ _ _ e=>by cases e) x hxs)
        | load=>exact absurd rfl (Oa.sl (fun _ _ _ _ e=>by cases e) x hxs)
        | new=>exact absurd rfl (Oa.sl (fun _ _ _ _ e=>by cases e) x hxs)
        | mkS=>exact absurd rfl (Oa.sl (fun _ _ _ _ e=>by cases e) x hxs)
    · cases hal:D.al with
      | none=>rw[hal] at hb';cases hb'
      | some x=>
        obtain⟨ia,bl⟩:=x
        rw[hal] at hb'
        simp only at hb'
        split at hb'
        · rename_i hla
          simp only[List.mem_singleton] at hb'
          subst hb'
          have hia:=(H.alOk ia _ hal).2.1
          obtain⟨oa,ra,_,hra,Oa⟩:=H.op hia
          have hsta:D.stage ia≤s:=by
           rcases Oa.stage with h | ⟨c,hc,hm⟩
           · omega
           · have:=(I.calls _ c hc).1 (I.closed ia hla c hm)
             omega
          cases ra with
          | new k cs ty sl=>
            obtain⟨q0,_,_,_,q4⟩:=Oa.new _ _ _ _ rfl
            rw[hal] at q0
            cases q0
            exact CE.aJ (H.le hsta I.le) c (List.all_eq_true.1 q4 c hc)
          | val=>exact absurd hal (Oa.al (fun _ _ _ _ e=>by cases e) _)
          | tup=>exact absurd hal (Oa.al (fun _ _ _ _ e=>by cases e) _)
          | call=>exact absurd hal (Oa.al (fun _ _ _ _ e=>by cases e) _)
          | load=>exact absurd hal (Oa.al (fun _ _ _ _ e=>by cases e) _)
          | sto=>exact absurd hal (Oa.al (fun _ _ _ _ e=>by cases e) _)
          | mkS=>exact absurd hal (Oa.al (fun _ _ _ _ e=>by cases e) _)
        · cases hb'
  obtain⟨t,ht⟩:=List.getElem?_of_mem hv
  obtain⟨y,hy,rfl⟩:=J4 ht
  have hyb:=VE.aJ h0s y (List.all_eq_true.1 hb.1 y (List.mem_of_getElem? hy))
  cases hw:D.wr t with
  | none=>exact hyb
  | some j=>
    show VE.blw (D.n s) (if listed.getD j false=true then D.ve j else y)=true
    split
    · rename_i hlj
      unfold Dr.ve
      cases hrj:D.recs[j]? with
      | none=>rfl
      | some rj=>
        have hj:j<D.L:=by rw[← H.len];exact (List.getElem?_eq_some_iff.1 hrj).1
        obtain⟨oj,rj',_,hrj',Oj⟩:=H.op hj
        rw[hrj] at hrj'
        cases hrj'
        have hstj:D.stage j≤s:=by
         rcases Oj.stage with h | ⟨c,hc,hm⟩
         · omega
         · have:=(I.calls _ c hc).1 (I.closed j hlj c hm)
           omega
        have hwrap:∀ (gs:Gs) (x:PE),x.blw (D.n s)=true→(jg gs x).blw (D.n s)=true:=fun gs x hx=>by
         unfold jg;split<;>exact hx
        cases rj with
        | val s' gs g c v=>
          obtain⟨_,e1,_,_,e4⟩:=Oj.val _ _ _ _ _ rfl
          exact hwrap gs v (PE.aJ (H.le (by omega) I.le) v e4)
        | tup l=>
          have:=(Oj.tup l rfl).2
          exact List.all_eq_true.2 fun x hx=>PE.aJ (H.le hstj I.le) x (List.all_eq_true.1 this x hx)
        | new k cs ty sl=>cases sl<;>rfl
        | sto=>rfl
        | mkS k cs t len n=>
          obtain⟨e1,e2,e3,e4⟩:=Oj.mkS _ _ _ _ _ rfl
          have hks:k<s:=(I.calls k j e2).1 hlj
          have hle:=I.le
          exact VE.aJ (H.le (by omega) I.le) _ (VE.aJ (H.chain (k+1) (by omega)).2 _ e4)
        | load s' n0 gs g a n x d=>
          obtain⟨_,e1,_,_,e4,e5,_⟩:=Oj.load _ _ _ _ _ _ _ _ rfl
          exact hwrap gs x (PE.aJ (H.le (by omega) I.le) x (PE.aJ e5 x e4))
        | call k gs g f vas x d=>
          obtain⟨e1,e2,e4,e5,_⟩:=Oj.call _ _ _ _ _ _ _ rfl
          have hks:k<s:=(I.calls k j e2).1 hlj
          have hle:=I.le
          have hxb:x.blw (D.n s)=true:=VE.aJ (H.le (by omega) I.le) x (VE.aJ (H.chain (k+1) (by omega)).2 x e5)
          show (xZ gs x).blw (D.n s)=true
          cases x with
          | p y=>exact hwrap gs y hxb
          | tup l=>exact hxb
          | dead=>rfl
          | wg _ _=>rfl
    · exact hyb
 have hclosed':∀ j,(listed.setIfInBounds i true).getD j false=true→∀ k∈D.pre j,(listed.setIfInBounds i true).getD k false=true:=by
  intro j hj k hk
  rw[bK (by omega)] at hj⊢
  rcases hj with rfl | hj
  · exact .inr (hpre k hk)
  · exact .inr (I.closed j hj k hk)
 have hlow':∀ j,D.L≤j→(listed.setIfInBounds i true).getD j false=false:=by
  intro j hj
  cases hq:(listed.setIfInBounds i true).getD j false
  · rfl
  · rcases (bK (by omega)).1 hq with rfl | h
    · omega
    · rw[I.low j hj] at h;cases h
 have RM:Rep B h0 w0 ρ { D.sees i (D.n (D.stage i)) (D.mem fun j=>listed.getD j false) with n:=D.n s } C a w:=U8 (m:=D.n (D.stage i)) I.rep I.closed hpre hi
 obtain⟨gs,g,hgs,hg,hcase⟩:=MK (O.e fun j=>listed.getD j false)
 have hgs':guardOf { D.sees i (D.n (D.stage i)) (D.mem fun j=>listed.getD j false) with n:=D.n s } ops o=some gs:=hgs
 have hg':oI { D.sees i (D.n (D.stage i)) (D.mem fun j=>listed.getD j false) with n:=D.n s } [] gs=some g:=by
  have:∀ (l pre:Gs),oI { D.sees i (D.n (D.stage i)) (D.mem fun j=>listed.getD j false) with n:=D.n s } pre l=oI (D.sees i (D.n (D.stage i)) (D.mem fun j=>listed.getD j false)) pre l:=by
   intro l
   induction l with
   | nil=>intro pre;rfl
   | cons x l ih=>intro pre;simp only[oI,ih];rfl
  rw[this];exact hg
 have hw:=iG RM hgs'
 have hgi:=uK RM gs [] g (aK _) hg'
 have fin':∀ (ρ':Nat→Nat) (u:Value) (w':World),Rep B h0 w0 ρ' { D.at (fun j=>listed.getD j false) (D.n s) with m:=(D.at (fun j=>(listed.setIfInBounds i true).getD j false) (D.n s)).m } C a w'→r.ve.holds C ρ' a.tmps u→i∉D.calls→
  ∃ ρ' C' s',Inv E B h0 w0 D C0 K nw P ops (listed.setIfInBounds i true) ρ' C' s' (a.put o.dst u) w':=by
  intro ρ' u w' R' hu hnc
  refine⟨ρ',C,s,by simp[hsz],hlow',hclosed',?_,I.le,I.ext,I.needs,I.loads,I.rest,OV H O hrec ho hsz hlt R' I.closed hi hu⟩
  intro k c hc
  rw[bK (by omega),I.calls k c hc]
  constructor
  · rintro (rfl | h)
    · exact absurd (List.mem_of_getElem? hc) hnc
    · exact h
  · exact .inr
 have fin:(∀ k cs ty sl,r≠.new k cs ty sl)→(∀ s k off cs,r≠.sto s k off cs)→∀ (u:Value),r.ve.holds C ρ a.tmps u→i∉D.calls→∃ ρ' C' s',Inv E B h0 w0 D C0 K nw P ops (listed.setIfInBounds i true) ρ' C' s' (a.put o.dst u) w:=
  fun hne hns u hu hnc=>fin' ρ u w (Yh (Zw (O.al hne) (O.sl hns)) I.rep) hu hnc
 have hcallf:(∀ k cs ty sl,r≠.new k cs ty sl)→(∀ s k off cs,r≠.sto s k off cs)→D.stage i=s→D.calls[s]? = some i→r.ve.blw (D.start (s+1))=true→∀ (C1:Ctx) (w':World) (u:Value),Ext C C1→Has C1 (D.start (s+1))→dZ C1.v→Holds C1.h w'→Fr w.heap.size C.h C1.h w w'→(∀ x∈yU s D.recs,x.1.den C=true→hread C1.h (x.2.1.den C) x.2.2=hread C.h (x.2.1.den C) x.2.2)→
  r.ve.holds C1 ρ a.tmps u→(AX D.recs K (D.calls.drop (s+1)) (s+1)).says E C1→
  ∃ ρ' C' s',Inv E B h0 w0 D C0 K nw P ops (listed.setIfInBounds i true) ρ' C' s' (a.put o.dst u) w':=by
  intro hne hns hks e2 e5 C1 w' u hx1 hhas1 ho1 hH hF hHL hu hsay
  have hsl:s<D.calls.length:=(List.getElem?_eq_some_iff.1 e2).1
  rw[Gl] at hsay
  obtain⟨C',hxe,hhas,ho',hCh,hsay,hlooks⟩:=wS D.recs (D.start (s+1)) C1 hhas1 ho1 (H.chain (s+1) hsl).1 H.looks hsay
  have hx':Ext C C':=hx1.trans hxe
  have R2:Rep B h0 w0 ρ (D.at (fun j=>listed.getD j false) (D.n (s+1))) C' a w':=jR (n:=D.n (s+1)) I.rep hblwAt hx' hhas ho' (by rw[hCh];exact hH) (by rw[hCh];exact hF)
  obtain⟨k1,k2⟩:=wG hsay
  have hagr:=hx'.Ed I.rep.has
  have hu':r.ve.holds C' ρ a.tmps u:=VE.pU (hxe.Ed hhas1) ρ _ _ _ e5 hu
  refine⟨ρ,C',s+1,by simp[hsz],hlow',hclosed',?_,hsl,I.ext.trans hx',?_,?_,k1,OV H O hrec ho hsz hlt (Yh (Zw (O.al hne) (O.sl hns)) R2) I.closed hi hu'⟩
  · intro k c hc
    rw[bK (by omega),I.calls k c hc]
    constructor
    · rintro (rfl | h)
      · have:k=s:=(List.getElem?_inj (List.getElem?_eq_some_iff.1 hc).1 H.nodup).1 (by rw[hc,e2])
        omega
      · omega
    · intro hk
      by_cases hks':k=s
      · subst hks';rw[e2] at hc;exact .inl (Option.some.inj hc).symm
      · exact .inr (by omega)
  · intro j s' gs' g' c' v' hj hs' hgt
    by_cases hle:s'≤s
    · have hjlt:j<D.L:=by rw[← H.len];exact (List.getElem?_eq_some_iff.1 hj).1
      obtain⟨oj,rj',_,hrj',Oj⟩:=H.op hjlt
      rw[hj] at hrj'
      cases hrj'
      obtain⟨_,q1,q2,q3,q4⟩:=Oj.val _ _ _ _ _ rfl
      have hA:Ea (D.n s') C C':=JZ hagr (H.le (by omega) I.le)
      rw[← BE.aG hA c' q3]
      exact I.needs j s' gs' g' c' v' hj hle (by rw[BE.aG hA g' q2];exact hgt)
    · obtain rfl:s'=s+1:=by omega
      exact k2 gs' g' c' v' (List.mem_of_getElem? hj) hgt
  · intro j s' n0 gs' g' a' n' x' d' hj hs' hgt
    by_cases hle:s'≤s
    · have hjlt:j<D.L:=by rw[← H.len];exact (List.getElem?_eq_some_iff.1 hj).1
      obtain⟨oj,rj',_,hrj',Oj⟩:=H.op hjlt
      rw[hj] at hrj'
      cases hrj'
      obtain⟨_,q1,q2,q3,q4,q5,q6⟩:=Oj.load _ _ _ _ _ _ _ _ rfl
      have hA0:Ea n0 C C':=JZ hagr (Cnt.le_trans q6 (H.le (by omega) I.le))
      have hA1:Ea (n0.add d') C C':=JZ hagr (Cnt.le_trans q5 (H.le (by omega) I.le))
      have hgt':g'.den C=true:=by rw[BE.aG hA0 g' q2];exact hgt
      have hm:(g',a',n')∈yU s D.recs:=List.mem_filterMap.2 ⟨_,List.mem_of_getElem? hj,by simp only;rw[if_pos hle]⟩
      have:=I.loads j s' n0 gs' g' a' n' x' d' hj hle hgt'
      rw[← hHL _ hm hgt'] at this
      rw[AE.aG hA0 a' q3,jb hA1 aP x'.cells q4] at this
      rw[hCh]
      exact this
    · obtain rfl:s'=s+1:=by omega
      exact hlooks n0 gs' g' a' n' x' d' (List.mem_of_getElem? hj) hgt
 unfold wpOp
 rw[ho]
 simp only
 rcases hcase with ⟨f,vas,x,n,hcal,hpl,hxp,hn,hshape,rfl⟩ | ⟨l,hl,hgs0,rfl⟩ | ⟨c,v,hp,rfl⟩ | ⟨t,x,ad,y,n,sz,d,hop,hx,hsize,hd,hyp,hyl,hya,rfl⟩ | ⟨cs,t,slo,hnew,hgs0,rfl⟩ | ⟨t,x,y,k,off,p,n,hop,hx,hy,hn,hgs0,hst,hlen,rfl⟩ | ⟨cs,t,len,hsl,hpl,hgs0,rfl⟩
 · -- a call
   obtain⟨e1,e2,e4,e5,e6⟩:=O.call _ _ _ _ _ _ _ rfl
   have hks:D.stage i=s:=by
    have:¬ D.stage i<s:=fun h=>by have:=(I.calls _ i e2).2 h;rw[this] at hi;cases hi
    omega
   rw[hks] at e2 e5
   have hsl:s<D.calls.length:=(List.getElem?_eq_some_iff.1 e2).1
   have e3:D.start (s+1)=(D.n s).add (n.sub (D.n (D.stage i))):=by
    simp only[Dr.start,e2,Option.bind_some,hrec]
    rfl
   have hrest:=I.rest
   rw[DU e2,hrec] at hrest
   obtain⟨hy,hno⟩:=Kq hrest
   have hfin:=hcallf (fun _ _ _ _ e=>by cases e) (fun _ _ _ _ e=>by cases e) hks e2 (by
    show (xZ gs x).blw _=true
    cases x with
    | p y=>show (jg gs y).blw _=true;unfold jg;split<;>exact e5
    | tup l=>exact e5
    | dead=>rfl
    | wg _ _=>rfl)
   split
   · rename_i hwant
     left
     have hc:=hw.1 hwant
     have hspec:=hy (hgi.2 hc)
     have hcal':uf nw P { D.sees i (D.n (D.stage i)) (D.mem fun j=>listed.getD j false) with n:=D.n s } gs o=some (f,vas,x,n):=by
      rw[← hcal,hks]
      rfl
     refine L8 hE RM hc hcal' hpl hspec ?_
     rintro u h w' ⟨hHL,hu⟩ hH hF
     show ∃ ρ' C' s',Inv E B h0 w0 D C0 K nw P ops (listed.setIfInBounds i true) ρ' C' s' (a.put o.dst u) w'
     rw[ah] at hu
     obtain⟨y,hy',hones,hval,hsays⟩:=hu
     refine hfin ((C.push y).heap h) w' u ((Ext.push C y).trans (Ext.heap _ h)) ((I.rep.has.push (by rw[hy'];exact e3.symm)).heap h) (gV I.rep.ones hones) hH hF hHL ?_ hsays
     have hrn:∀ F,x.den F aP=x.den F ρ:=fun F=>by
      cases x with
      | p y=>exact y.eF hxp
      | tup l=>exact congrArg (fun x=>Value.tuple (List.toArray x)) (List.map_congr_left fun y hy=>PE.eF y (List.all_eq_true.1 hxp y hy))
      | _=>rfl
     rcases hshape with ⟨p,rfl⟩ | ⟨⟨l,rfl⟩,rfl⟩
     · exact jq hc (by rw[hval,hrn,← VE.yu (C.push y) h];rfl)
     · rw[hval,hrn,← VE.yu (C.push y) h];rfl
   · rename_i hwant
     have hc:¬ dA gs a.tmps:=fun h=>hwant (hw.2 h)
     have hgf:g.den C=false:=by
      cases hq:g.den C
      · rfl
      · exact absurd (hgi.1 hq) hc
     refine hfin (C.push (Inc.blank (n.sub (D.n (D.stage i))))) w undef (Ext.push C _) (I.rep.has.push (by rw[show (Inc.blank (n.sub (D.n (D.stage i)))).cnt=n.sub (D.n (D.stage i)) by simp[Inc.blank,Inc.cnt]];exact e3.symm)) (gV I.rep.ones (fun u hu=>by rw[List.eq_of_mem_replicate hu];rfl)) I.rep.holds (Fr.refl _ _ _) (fun _ _ _=>rfl) ?_ (hno hgf)
     rcases hshape with ⟨p,rfl⟩ | ⟨⟨l,rfl⟩,rfl⟩
     · exact jJ hc
     · exact absurd (aK _) hc
 · -- several results, copied
   subst hgs0
   rw[if_pos (hw.2 (aK _))]
   left
   unfold uw at hl
   split at hl
   · rename_i t hop
     split at hl
     · rename_i l' hs'
       cases hl
       have hv:a.eval (.tmp t)=.tuple (l.map (PE.den C ρ)).toArray:=RM.slots t _ hs'
       unfold Oper.wp
       have hrun:(execOp a.eval o).run P w=.ok (.value (.tuple (l.map (PE.den C ρ)).toArray)) w:=by
        unfold execOp
        rw[hop,← hv]
        rfl
       rw[hrun]
       exact fin (fun _ _ _ _ e=>by cases e) (fun _ _ _ _ e=>by cases e) _ rfl (O.tup l rfl).1
     · cases hl
   · cases hl
 · -- a value
   obtain⟨q0,q1,q2,q3,q4⟩:=O.val _ _ _ _ _ rfl
   have hp':oZ nw P { D.sees i (D.n (D.stage i)) (D.mem fun j=>listed.getD j false) with n:=D.n s } gs o.op=some (c,v):=by
    rw[← hp];exact Xl _ _ _ _
   split
   · rename_i hwant
     have hc:=hw.1 hwant
     have hneed:=I.needs i _ gs g c v hrec hstage (hgi.2 hc)
     have:=nN RM hc hp' hneed
     left
     unfold Oper.wp
     rw[this]
     exact fin (fun _ _ _ _ e=>by cases e) (fun _ _ _ _ e=>by cases e) _ (jq hc rfl) q0
   · rename_i hwant
     have hc:¬ dA gs a.tmps:=fun h=>hwant (hw.2 h)
     exact fin (fun _ _ _ _ e=>by cases e) (fun _ _ _ _ e=>by cases e) _ (jJ hc) q0
 · -- a look into known memory
   obtain⟨q0,q1,q2,q3,q4,q5,q6⟩:=O.load _ _ _ _ _ _ _ _ rfl
   split
   · rename_i hwant
     have hc:=hw.1 hwant
     have hread:=I.loads i _ _ gs g ad sz y _ hrec hstage (hgi.2 hc)
     obtain⟨q,hq,hlen,hcell⟩:=pX I.rep.holds hread (jv I.rep.ones aP y.cells)
     have he':a.eval x=.pointer (some ⟨q.1,q.2,none⟩):=xM RM hc (show (gW { D.sees i (D.n (D.stage i)) (D.mem fun j=>listed.getD j false) with n:=D.n s } gs x).bind rJ=some ad by rw[qK];exact hx) hq
     obtain⟨L1,L2⟩:=uU hd hsize hlen hcell
     have hrun:(execOp a.eval o).run P w=.ok (.value (y.den C ρ)) w:=by
      unfold execOp
      rw[hop]
      simp only[he']
      refine dM ?_
      cases y with
      | one c=>
        have hagg:fZ P t=false:=by simpa[PE.Gf] using hya
        have hp:c.plain=true:=by simpa[PE.plain,PE.cells] using hyp
        exact L2 hagg _ (by rw[show PE.den C ρ (.one c)=c.den C aP from c.eF hp];rfl)
      | agg l=>
        have hagg:fZ P t=true:=hya
        rw[L1 hagg]
        show _=Result.ok (Value.agg (l.map (CE.den C ρ)).toArray) w
        rw[← jc (ρ:=ρ) (l:=l) hyp]
        rfl
     left
     unfold Oper.wp
     rw[hrun]
     exact fin (fun _ _ _ _ e=>by cases e) (fun _ _ _ _ e=>by cases e) _ (jq hc rfl) q0
   · rename_i hwant
     have hc:¬ dA gs a.tmps:=fun h=>hwant (hw.2 h)
     exact fin (fun _ _ _ _ e=>by cases e) (fun _ _ _ _ e=>by cases e) _ (jJ hc) q0
 · -- a block of the call's own
   obtain⟨q0,q1,q2,q3,q4⟩:=O.new _ _ _ _ rfl
   obtain⟨a0,a1,a2,a3⟩:=H.alOk i _ q0
   subst hgs0
   rw[if_pos (hw.2 (aK _))]
   left
   have hme:∀ p,D.mem p=D.st.m:=fun p=>by unfold Dr.mem;rw[a0];rfl
   have hm0:(D.at (fun j=>listed.getD j false) (D.n s)).m=D.st.m:=by unfold Dr.at;simp[hme,q0,hi]
   have hm1:(D.at (fun j=>(listed.setIfInBounds i true).getD j false) (D.n s)).m=D.st.m++[⟨cs,t⟩]:=by
    unfold Dr.at
    simp only[q0,hme]
    rw[if_pos ((bK (by omega)).2 (.inl rfl))]
   have hokm:(D.at (fun j=>listed.getD j false) (D.n s)).qA=true:=by
    simp only[St.qA,Bool.and_eq_true] at a2⊢
    rw[hm0]
    refine⟨List.all_eq_true.2 fun v hv=>?_,a2.2⟩
    obtain⟨t',ht'⟩:=List.getElem?_of_mem hv
    obtain⟨y,hy,rfl⟩:=J4 ht'
    have hyo:=List.all_eq_true.1 a2.1 y (List.mem_of_getElem? hy)
    cases hwr:D.wr t' with
    | none=>exact hyo
    | some j=>
      show VE.qA _ (if listed.getD j false=true then D.ve j else y)=true
      split
      · rename_i hlj
        unfold Dr.ve
        cases hrj:D.recs[j]? with
        | none=>rfl
        | some rj=>
          rcases a3 j rj hrj with rfl | h | h
          · rw[hlj] at hi;cases hi
          · have:=I.closed j hlj i h
            rw[this] at hi;cases hi
          · exact h
      · exact hyo
   obtain⟨σ,hσ,R1⟩:=vH I.rep hokm (cs:=cs) (by rw[hm0];exact q3) t
   have hrun:=LM RM ((Uh _ _ _ _).trans hnew) (σ:=σ) (k:=D.st.m.length) (by rw[hm0] at hσ;exact hσ)
   unfold Oper.wp
   rw[hrun]
   refine fin' σ _ _ ?_ ?_ q2
   · rw[hm1]
     rw[hm0] at R1
     exact R1
   · have hq1:(D.sees i (D.n (D.stage i)) (D.mem fun j=>listed.getD j false)).m.length=D.st.m.length:=by
      have hmad:D.mad i=[]:=by
       unfold Dr.mad
       rw[q0]
       simp only
       rw[if_neg (by simpa using O.irr)]
      simp only[Dr.sees,hmad,List.append_nil]
      exact congrArg List.length (hme fun j=>listed.getD j false)
     show _=(zy (D.sees i (D.n (D.stage i)) (D.mem fun j=>listed.getD j false)).m.length slo).den C σ
     rw[hq1]
 · -- a block of the call's own is written
   obtain⟨_,q2,b,q3,q4,q5⟩:=O.sto _ _ _ _ rfl
   subst hgs0
   rw[if_pos (hw.2 (aK _))]
   left
   have hal:∀ b,D.al≠some (i,b):=O.al (fun _ _ _ _ e=>by cases e)
   have hnal:D.al=none:=by
    cases hD:D.al with
    | none=>rfl
    | some z=>obtain⟨j,bb⟩:=z;rw[(H.alOk j bb hD).1] at q5;cases q5
   have hkk:∀ x∈D.sl.filter (fun x=>listed.getD x.1 false),x.2.1≠k:=by
    intro x hx e
    obtain⟨hxs,hla⟩:=List.mem_filter.1 hx
    obtain⟨p1,hp1⟩:=List.getElem?_of_mem hxs
    obtain⟨p2,hp2⟩:=List.getElem?_of_mem q5
    have e1:(D.sl.map (·.2.1))[p1]? = some k:=by rw[List.getElem?_map,hp1,← e];rfl
    have e2:(D.sl.map (·.2.1))[p2]? = some k:=by rw[List.getElem?_map,hp2];rfl
    have:p1=p2:=(List.getElem?_inj (List.getElem?_eq_some_iff.1 e1).1 H.slK).1 (by rw[e1,e2])
    subst this
    rw[hp1] at hp2
    cases hp2
    simp only at hla
    rw[hla] at hi;cases hi
   have hm0:(D.at (fun j=>listed.getD j false) (D.n s)).m=D.mem (fun j=>listed.getD j false):=by unfold Dr.at;simp[hnal]
   have hm1:(D.at (fun j=>(listed.setIfInBounds i true).getD j false) (D.n s)).m=(D.at (fun j=>listed.getD j false) (D.n s)).m.set k ⟨b.cells.take off++p.cells++b.cells.drop (off+p.cells.length),b.ty⟩:=by
    rw[hm0]
    unfold Dr.at Dr.mem
    simp only[hnal,List.append_nil]
    refine o7 (i:=i) (p:=fun j=>listed.getD j false) (q:=fun j=>(listed.setIfInBounds i true).getD j false) ((bK (by omega)).2 (.inl rfl)) hi (fun j hj=>?_) q5 H.slN H.slK
    have:=bK (l:=listed) (i:=i) (j:=j) (by omega)
    cases h1:(listed.setIfInBounds i true).getD j false<;>cases h2:listed.getD j false<;>simp_all
   have hbk:(D.at (fun j=>listed.getD j false) (D.n s)).m[k]? = some b:=by
    rw[hm0]
    unfold Dr.mem
    rw[Aj hkk];exact q3
   have h1:a.eval x=.pointer (some ⟨ρ k,off,none⟩):=az RM (aK _) (show gW { D.sees i (D.n (D.stage i)) (D.mem fun j=>listed.getD j false) with n:=D.n s } [] x=some (.one (.own k off)) from (qK _ _ _ _).trans hx)
   have h2:=az RM (aK _) (show gW { D.sees i (D.n (D.stage i)) (D.mem fun j=>listed.getD j false) with n:=D.n s } [] y=some p from (qK _ _ _ _).trans hy)
   have hrun:(execOp a.eval o).run P w=.ok .skip (w.setRow (ρ k) ((b.cells.take off++p.cells++b.cells.drop (off+p.cells.length)).map (CE.den C ρ)).toArray):=by
    unfold execOp
    rw[hop]
    have hst':=lu (P:=P) (t:=t) (off:=off) (I.rep.blocks k b hbk) (kZ I.rep.ones ρ p) (n:=n) hn (by simp[hlen]) (by simp;omega) (by
     intro u hu
     obtain⟨c,hc,rfl⟩:=List.mem_map.1 hu
     have:=List.all_eq_true.1 hst c hc
     simp only[CE.sto,Bool.and_eq_true,decide_eq_true_eq,Bool.not_eq_true'] at this
     refine uH I.rep.ones ρ c (D.n s) I.rep.cv.symm (CE.aJ (H.le hstage I.le) c this.1.1) this.1.2 this.2)
    simp only[h1,h2,Sem.run_bind,hst']
    simp[List.map_take,List.map_drop,hlen]
   unfold Oper.wp
   rw[hrun]
   refine fin' ρ undef _ ?_ trivial q2
   rw[hm1]
   exact DT I.rep hbk
 · -- a slice that is written out: it is known memory at once
   obtain⟨e1,e2,_,e4⟩:=O.mkS _ _ _ _ _ rfl
   have hks:D.stage i=s:=by
    have:¬ D.stage i<s:=fun h=>by have:=(I.calls _ i e2).2 h;rw[this] at hi;cases hi
    omega
   rw[hks] at e2
   have hrest:=I.rest
   rw[DU e2,hrec] at hrest
   subst hgs0
   rw[if_pos (hw.2 (aK _))]
   left
   have hnone:C.h w.heap.size=none:=by
    cases hq:C.h w.heap.size with
    | none=>rfl
    | some o=>have:=I.rep.holds.lt (b:=w.heap.size) (by rw[hq];simp);omega
   have hsay:=hrest w.heap.size hnone
   rw[jc (ρ:=ρ) hpl] at hsay
   have hsl':jI P { D.sees i (D.n (D.stage i)) (D.mem fun j=>listed.getD j false) with n:=D.n s } [] o.op=some (cs,t,len):=by
    rw[← hsl];exact QZ _ _ _ _
   have hst:D.start (s+1)=(D.n s).add ⟨0,0,0,0,1,0⟩:=by
    simp only[Dr.start,e2,Option.bind_some,hrec]
   have R1:=FB (n:=(D.n s).add ⟨0,0,0,0,1,0⟩) (x:=⟨[],[],[],[],[⟨some (w.heap.size,0),len,len⟩],[]⟩) I.rep hblwAt rfl (fun u hu=>by cases hu) (cs.map (CE.den C ρ)) t (jv I.rep.ones ρ cs)
   unfold Oper.wp
   rw[wO RM hsl']
   have hbel:Below w.heap.size w (w.alloc (.cells (cs.map (CE.den C ρ)).toArray t)):=(Below.refl _ _).alloc (Nat.le_refl _) _
   refine hcallf (fun _ _ _ _ e=>by cases e) (fun _ _ _ _ e=>by cases e) hks e2 (by rw[← hks];exact e4) _ _ _ ((Ext.push C _).trans (Ext.heap _ _)) (hst▸R1.has) R1.ones R1.holds ?_ ?_ ?_ hsay
   · refine⟨hbel.os,hbel.tape,hbel.output,hbel.size,fun k hk _=>hbel.block k hk,fun k hk hn=>?_,fun k hk hn=>hn.set (by omega)⟩
     show (C.h.set w.heap.size ⟨cs.map (CE.den C ρ),t⟩) k=none
     simp only[Hp.set]
     rw[if_neg (by omega)]
     exact hn
   · intro x hx hg
     obtain⟨r',hr',he⟩:=List.mem_filterMap.1 hx
     obtain⟨j,hj⟩:=List.getElem?_of_mem hr'
     cases r' with
     | load s' n0 gs' g' a' n' x' d'=>
       simp only at he
       split at he
       · rename_i hle
         cases he
         have hl:=I.loads j s' n0 gs' g' a' n' x' d' hj hle hg
         rw[hl]
         exact Iq (fun k y hk=>by
          show (C.h.set w.heap.size ⟨cs.map (CE.den C ρ),t⟩) k=some y
          simp only[Hp.set]
          rw[if_neg (fun e=>by rw[e,hnone] at hk;cases hk)]
          exact hk) hl
       · cases he
     | _=>cases he
   · show _=((C.l++[(⟨some (w.heap.size,0),len,len⟩:bg)]).getD (D.n (D.stage i)).l ⟨none,0,0⟩).val
     have hcl:C.l.length=(D.n s).l:=I.rep.cl
     rw[hks,← hcl]
     simp[bg.val]
theorem mF (hE:Good P E) {K:St→Fm} {D:Dr} (hck:D.fine nw P ops st=true) (R:Rep B h0 w0 ρ st C a w) (hs:(yx nw P ops K D).says E C) {Q:Exit→Act→World→Prop}
 (hQp:∀ c a w,¬ Q (.panic c) a w) (hQo:¬ LetsOut Q) (hK:∀ ρ st D a w,Ext C D→Rep B h0 w0 ρ st D a w→(K st).says E D→Q .normal a w):wpAny P .any ops Q ops.size (Array.replicate ops.size false) a w:=by
 unfold yx at hs
 · unfold Dr.fine at hck
   simp only[Bool.and_eq_true,decide_eq_true_eq] at hck
   obtain⟨⟨⟨hok,ht⟩,hmm⟩,hn⟩:=hck
   have H:=V8 hok
   generalize hKe:(Xk D.all fun st=>qV nw P ops (ops.toList.drop D.L) st K)=K0 at hs
   have hall:∀ listed:Array Bool,listed.size=ops.size→Region.ready .any ops listed=[]→∀ i,i<ops.size→listed.getD i false=true:=by
    intro listed hsz hr i
    induction i using Nat.strongRecOn with
    | _ i ih=>
      intro hi
      cases hq:listed.getD i false
      · exfalso
        have hmem:i∈Region.ready .any ops listed:=by
         unfold Region.ready
         simp only[List.mem_filter,List.mem_range,Bool.and_eq_true,Bool.not_eq_true']
         refine⟨hi,?_,?_⟩
         · have:i<listed.size:=by omega
           rw[Array.getD_eq_getD_getElem?,Array.getElem?_eq_getElem this] at hq⊢
           exact hq
         · rw[Array.getElem?_eq_getElem hi]
           simp only[Option.map_some,Option.getD_some]
           rw[Array.all_eq_true_iff_forall_mem]
           intro ed hed
           cases hb:Region.binds .any ed
           · rfl
           · have hd:ed.on∈direct ops[i]:=by
              unfold direct
              rw[List.mem_filterMap]
              exact⟨ed,Array.mem_toList_iff.2 hed,by rw[if_pos hb]⟩
             have hlt:=H.down i ops[i] (Array.getElem?_eq_getElem hi) _ hd
             simp[ih ed.on hlt (by omega)]
        rw[hr] at hmem
        cases hmem
      · rfl
   have fin:∀ (listed:Array Bool) (ρ:Nat→Nat) (C':Ctx) (s:Nat) (a:Act) (w:World),Inv E B h0 w0 D C K0 nw P ops listed ρ C' s a w→(∀ i,i<D.L→listed.getD i false=true)→
    Ext C C'∧Rep B h0 w0 ρ D.all C' a w∧K0.says E C':=by
    intro listed ρ C' s a w I hl
    have hs:s=D.calls.length:=by
     have hle:=I.le
     by_cases h:s<D.calls.length
     · obtain⟨c,hc⟩:∃ c,D.calls[s]? = some c:=⟨_,List.getElem?_eq_getElem h⟩
       have h1:=I.calls s c hc
       have:=h1.1 (hl c (H.callsLt c (List.mem_of_getElem? hc)))
       omega
     · omega
    subst hs
    have hrest:=I.rest
    unfold Dr.rest at hrest
    rw[List.drop_length] at hrest
    have hat:D.at (fun j=>listed.getD j false) (D.n D.calls.length)=D.all:=by
     unfold Dr.all Dr.at
     congr 1
     · refine List.ext_getElem? fun t=>?_
       simp only[jO]
       cases D.st.t[t]? with
       | none=>rfl
       | some v=>
         simp only[Option.map_some,Option.some.injEq]
         cases hw:D.wr t with
         | none=>rfl
         | some j=>
           simp only
           rw[if_pos (hl j (H.wrLt t j hw)),if_pos trivial]
     · congr 1
       · unfold Dr.mem
         congr 1
         exact List.filter_congr fun x hx=>hl x.1 (H.slOk x hx)
       cases hal:D.al with
       | none=>rfl
       | some x=>
         obtain⟨ia,b⟩:=x
         simp only
         rw[if_pos (hl ia (H.alOk ia b hal).2.1),if_pos trivial]
    have hrep:=I.rep
    rw[hat] at hrep
    exact⟨I.ext,hrep,hrest⟩
   have phase2:∀ (fuel i:Nat) (listed:Array Bool) (ρ:Nat→Nat) (C':Ctx) (st':St) (a:Act) (w:World),D.L≤i→listed.size=ops.size→(∀ j,j<ops.size→(listed.getD j false=true↔j<i))→Ext C C'→Rep B h0 w0 ρ st' C' a w→
    (qV nw P ops (ops.toList.drop i) st' K).says E C'→ops.size - i≤fuel→wpAny P .any ops Q fuel listed a w:=by
    intro fuel
    induction fuel with
    | zero=>
      intro i listed ρ C' st' a w hLi hsz hl hx R hs hf
      have hr:Region.ready .any ops listed=[]:=by
       rw[List.eq_nil_iff_forall_not_mem]
       intro j hj
       obtain⟨h1,h2,_⟩:=lm hj
       have:listed.getD j false=true:=(hl j h1).2 (by omega)
       have hjl:j<listed.size:=by omega
       rw[Array.getD_eq_getD_getElem?,Array.getElem?_eq_getElem hjl] at this h2
       simp only[Option.getD_some] at this h2
       rw[this] at h2;cases h2
      have hd:ops.toList.drop i=[]:=List.drop_eq_nil_of_le (by simp;omega)
      rw[hd] at hs
      exact⟨hr,hK ρ st' C' a w hx R hs⟩
    | succ fuel ih=>
      intro i listed ρ C' st' a w hLi hsz hl hx R hs hf
      refine⟨fun hr=>?_,fun j hj=>?_⟩
      · have hi:ops.size≤i:=by
         by_cases h:i<ops.size
         · have:=(hl i h).1 (hall listed hsz hr i h)
           omega
         · omega
        have hd:ops.toList.drop i=[]:=List.drop_eq_nil_of_le (by simp;omega)
        rw[hd] at hs
        exact hK ρ st' C' a w hx R hs
      · obtain⟨h1,h2,h3⟩:=lm hj
        have hnot:¬ j<i:=fun h=>by
         have:listed.getD j false=true:=(hl j h1).2 h
         have hjl:j<listed.size:=by omega
         rw[Array.getD_eq_getD_getElem?,Array.getElem?_eq_getElem hjl] at this h2
         simp only[Option.getD_some] at this h2
         rw[this] at h2;cases h2
        have hji:j=i:=by
         by_cases h:j=i
         · exact h
         · exfalso
           have hpre:i∈D.pre j:=(H.suf j (by omega) h1 i (by omega)).resolve_left (fun hz=>by have:=(H.zOk i hz).1;omega)
           have hcl:∀ e∈D.pre j,listed.getD e false=true:=by
            intro e he
            unfold Dr.pre at he
            rw[H.tab] at he
            obtain⟨o',ho',hh⟩:=mW ops.toList [] j (Nat.zero_le _) e he
            have ho'':ops[j]? = some o':=by simpa using ho'
            rcases hh with h | ⟨e',he',hx'⟩
            · exact h3 o' ho'' e h
            · have h4:=h3 o' ho'' e' he'
              have hlt':=H.down j o' ho'' e' he'
              have h5:=(hl e' (by omega)).1 h4
              by_cases hee:e<i
              · exact (hl e (by omega)).2 hee
              · exfalso
                have:∀ (n m:Nat),n∈(qB ops.toList []).getD m []→n<m:=by
                 intro n m
                 induction m using Nat.strongRecOn generalizing n with
                 | _ m ihm=>
                   intro hn
                   obtain⟨o3,ho3,hh3⟩:=mW ops.toList [] m (Nat.zero_le _) n hn
                   have ho3':ops[m]? = some o3:=by simpa using ho3
                   rcases hh3 with h | ⟨e3,he3,hx3⟩
                   · exact H.down m o3 ho3' n h
                   · have:=H.down m o3 ho3' e3 he3
                     have:=ihm e3 this n hx3
                     omega
                have:=this e e' hx'
                omega
           have:=(hl i (by omega)).1 (hcl i hpre)
           omega
        subst hji
        have hdrop:ops.toList.drop j=ops[j]::ops.toList.drop (j+1):=by
         have:=List.drop_eq_getElem_cons (l:=ops.toList) (i:=j) (by simpa using h1)
         simpa using this
        rw[hdrop] at hs
        have hstep:=lK (ops:=ops) (Q:=Q) hE R (K:=fun st=>qV nw P ops (ops.toList.drop (j+1)) st K) hs (Next:=wpAny P .any ops Q fuel (listed.setIfInBounds j true)) (fun ρ2 st2 D2 a2 w2 hx2 R2 hs2=>
         ih (j+1) _ ρ2 D2 st2 a2 w2 (by omega) (by simp[hsz]) (fun k hk=>by
          rw[bK (by omega),hl k hk];omega) (hx.trans hx2) R2 hs2 (by omega))
        unfold wpOp
        rw[Array.getElem?_eq_getElem h1]
        exact hstep
   have key:∀ (fuel:Nat) (listed:Array Bool) (ρ:Nat→Nat) (C':Ctx) (s:Nat) (a:Act) (w:World),Inv E B h0 w0 D C K0 nw P ops listed ρ C' s a w→((List.range ops.size).filter fun j=>!listed.getD j false).length≤fuel→(∀ z∈D.z,listed.getD z false=true)→wpAny P .any ops Q fuel listed a w:=by
    have turn:∀ (fuel:Nat) (listed:Array Bool) (ρ:Nat→Nat) (C':Ctx) (s:Nat) (a:Act) (w:World),Inv E B h0 w0 D C K0 nw P ops listed ρ C' s a w→(∀ i,i<D.L→listed.getD i false=true)→((List.range ops.size).filter fun j=>!listed.getD j false).length≤fuel→wpAny P .any ops Q fuel listed a w:=by
     intro fuel listed ρ C' s a w I hl hc
     obtain⟨hx,R,hs⟩:=fin listed ρ C' s a w I hl
     rw[← hKe] at hs
     obtain⟨C2,st2,hx2,R2,hs2⟩:=MI R hs
     refine phase2 fuel D.L listed ρ C2 st2 a w (Nat.le_refl _) I.size (fun j hj=>⟨fun h=>?_,fun h=>hl j h⟩) (hx.trans hx2) R2 hs2 ?_
     · by_cases hjL:j<D.L
       · exact hjL
       · rw[I.low j (by omega)] at h;cases h
     · refine Nat.le_trans ?_ hc
       have:((List.range ops.size).filter fun j=>!listed.getD j false)=(List.range ops.size).filter fun j=>decide (D.L≤j):=by
        refine List.filter_congr fun j _=>?_
        by_cases hjL:j<D.L
        · rw[hl j hjL];simp;omega
        · rw[I.low j (by omega)];simp;omega
       rw[this]
       have hLle:=H.Lle
       have hcount:∀ n m:Nat,m≤n→((List.range n).filter fun j=>decide (m≤j)).length=n - m:=by
        intro n
        induction n with
        | zero=>intro m hm;simp
        | succ n ihn=>
          intro m hm
          rw[List.range_succ,List.filter_append,List.length_append]
          by_cases h:m≤n
          · rw[ihn m h];simp[h];omega
          · have:m=n+1:=by omega
            subst this
            have hz:(List.filter (fun j=>decide (n+1≤j)) (List.range n))=[]:=by
             rw[List.filter_eq_nil_iff]
             intro j hj
             have:=List.mem_range.1 hj
             simp;omega
            rw[hz];simp
       rw[hcount _ _ hLle]
       exact Nat.le_refl _
    intro fuel
    induction fuel with
    | zero=>
      intro listed ρ C' s a w I hc hz
      have hnil:(List.range ops.size).filter (fun j=>!listed.getD j false)=[]:=List.eq_nil_of_length_eq_zero (by omega)
      refine turn 0 listed ρ C' s a w I (fun i hi=>?_) hc
      have hLle:=H.Lle
      rw[List.filter_eq_nil_iff] at hnil
      have:=hnil i (List.mem_range.2 (by omega))
      simpa using this
    | succ fuel ih=>
      intro listed ρ C' s a w I hc hz
      by_cases hdone:∀ i,i<D.L→listed.getD i false=true
      · exact turn (fuel+1) listed ρ C' s a w I hdone hc
      refine⟨fun hr=>absurd (fun i hi=>hall listed I.size hr i (by have:=H.Lle;omega)) hdone,fun i hi=>?_⟩
      obtain⟨hlt,hnot,hdir⟩:=lm hi
      have hiL:i<D.L:=by
       by_cases h:i<D.L
       · exact h
       · exfalso
         apply hdone
         intro k hk
         rcases H.suf i (by omega) hlt k (by omega) with hzk | hpre
         · exact hz k hzk
         unfold Dr.pre at hpre
         rw[H.tab] at hpre
         obtain⟨o',ho',hh⟩:=mW ops.toList [] i (Nat.zero_le _) k hpre
         have ho'':ops[i]? = some o':=by simpa using ho'
         rcases hh with h | ⟨e,he,hx⟩
         · exact hdir o' ho'' k h
         · refine I.closed e (hdir o' ho'' e he) k ?_
           unfold Dr.pre
           rw[H.tab];exact hx
      refine wpOp_mono ?_ (Iw hE H I hi hiL)
      rintro a' w' ⟨ρ',C'',s',I'⟩
      have hsz:=I.size
      refine ih _ ρ' C'' s' a' w' I' ?_ (fun z hzz=>(bK (by omega)).2 (.inr (hz z hzz)))
      have hi0:listed.getD i false=false:=by
       have:i<listed.size:=by omega
       rw[Array.getD_eq_getD_getElem?,Array.getElem?_eq_getElem this] at hnot⊢
       exact hnot
      have e:(List.range ops.size).filter (fun j=>!(listed.setIfInBounds i true).getD j false)=((List.range ops.size).filter fun j=>!listed.getD j false).filter fun j=>j != i:=by
       rw[List.filter_filter]
       refine List.filter_congr fun j _=>?_
       have:=bK (l:=listed) (i:=i) (j:=j) (by omega)
       cases h1:(listed.setIfInBounds i true).getD j false<;>cases h2:listed.getD j false<;>by_cases h3:j=i<;>simp_all
      have hlen:(((List.range ops.size).filter fun j=>!listed.getD j false).filter fun j=>j != i).length<((List.range ops.size).filter fun j=>!listed.getD j false).length:=by
       rw[List.length_filter_lt_length_iff_exists]
       exact⟨i,by simp only[List.mem_filter,List.mem_range];exact⟨hlt,by rw[hi0];rfl⟩,by simp⟩
      rw[e]
      omega
   have zs:∀ (l:List Nat) (fuel:Nat) (listed:Array Bool) (ρ:Nat→Nat) (C':Ctx) (s:Nat) (a:Act) (w:World),Inv E B h0 w0 D C K0 nw P ops listed ρ C' s a w→((List.range ops.size).filter fun j=>!listed.getD j false).length≤fuel→
    l.Nodup→(∀ z∈l,z∈D.z∧listed.getD z false=false)→(∀ z∈D.z,z∈l∨listed.getD z false=true)→wpAny P .any ops Q fuel listed a w:=by
    intro l
    induction l with
    | nil=>intro fuel listed ρ C' s a w I hc _ _ h2;exact key fuel listed ρ C' s a w I hc (fun z hz=>(h2 z hz).resolve_left (by simp))
    | cons z l ih=>
      intro fuel listed ρ C' s a w I hc hnd h1 h2
      obtain⟨hz,hun⟩:=h1 z (by simp)
      obtain⟨hzL,hlz⟩:=H.zOk z hz
      have hsz:=I.size
      have hzs:z<ops.size:=by have:=H.Lle;omega
      have hget:=Array.getElem?_eq_getElem hzs
      unfold EP at hlz
      rw[hget] at hlz
      simp only[Bool.and_eq_true] at hlz
      obtain⟨⟨⟨z1,z2⟩,z3⟩,z4⟩:=hlz
      obtain⟨x,hop⟩:∃ x,ops[z].op=.move x:=by
       split at z1
       · exact⟨_,by assumption⟩
       · cases z1
      have hrun:∀ w,(execOp a.eval ops[z]).run P w=.ok (.value (a.eval x)) w:=fun w=>by unfold execOp;rw[hop];rfl
      have hg:ops[z].guard=none:=Option.isNone_iff_eq_none.1 z2
      have hwant:Region.wanted ops[z] (yielded ops a.tmps)=true:=by unfold Region.wanted;rw[hg]
      have hready:z∈Region.ready .any ops listed:=by
       rw[mem_ready]
       refine⟨?_,ops[z],hget,fun e he=>?_⟩
       · have:z<listed.size:=by omega
         rw[Array.getD_eq_getD_getElem?,Array.getElem?_eq_getElem this] at hun⊢
         exact hun
       · rw[Array.isEmpty_iff] at z3
         rw[z3] at he
         simp at he
      have hsel:Region.noSelect ops=true:=H.zSel.resolve_left (fun h=>by rw[h] at hz;cases hz)
      have hstep:=Iw (Q:=Q) hE H I hready hzL
      unfold wpOp at hstep
      simp only[hget,hwant,if_true] at hstep
      rcases hstep with hstep | ⟨_,hlo⟩
      rotate_left
      · exact absurd hlo hQo
      unfold Oper.wp at hstep
      rw[hrun] at hstep
      obtain⟨ρ',C'',s',I'⟩:=hstep
      have e:(List.range ops.size).filter (fun j=>!(listed.setIfInBounds z true).getD j false)=((List.range ops.size).filter fun j=>!listed.getD j false).filter fun j=>j != z:=by
       rw[List.filter_filter]
       refine List.filter_congr fun j _=>?_
       have:=bK (l:=listed) (i:=z) (j:=j) (by omega)
       cases h1:(listed.setIfInBounds z true).getD j false<;>cases h2:listed.getD j false<;>by_cases h3:j=z<;>simp_all
      have hlen:(((List.range ops.size).filter fun j=>!listed.getD j false).filter fun j=>j != z).length<((List.range ops.size).filter fun j=>!listed.getD j false).length:=by
       rw[List.length_filter_lt_length_iff_exists]
       exact⟨z,by simp only[List.mem_filter,List.mem_range];exact⟨hzs,by rw[hun];rfl⟩,by simp⟩
      obtain⟨fuel,rfl⟩:∃ f,fuel=f+1:=⟨fuel - 1,by omega⟩
      refine wpAny_first (i:=z) hget (Region.noSelect_spec hsel) (fun c a w h=>absurd h (hQp c _ w)) fuel listed a w (fun j oj hj hne _ hno=>Region.free_spec hget z4 j oj hj hne ?_ hno) hready (.inl ⟨hwant,hrun⟩) ?_
      · have hjs:j<ops.size:=(Array.getElem?_eq_some_iff.1 hj).1
        simp[Array.getD_eq_getD_getElem?,hjs]
      · refine ih fuel _ ρ' C'' s' _ w I' (by rw[e];omega) (List.nodup_cons.1 hnd).2 (fun y hy=>⟨(h1 y (by simp[hy])).1,?_⟩) (fun y hy=>?_)
        · have hne:z≠y:=fun e=>(List.nodup_cons.1 hnd).1 (e▸hy)
          rw[Go.getD_set_ne false hne]
          exact (h1 y (by simp[hy])).2
        · rcases h2 y hy with h | h
          · rcases List.mem_cons.1 h with rfl | h
            · exact .inr ((bK (by omega)).2 (.inl rfl))
            · exact .inl h
          · exact .inr ((bK (by omega)).2 (.inr h))
   have hs':(AX D.recs K0 (D.calls.drop 0) 0).says E C:=by rw[List.drop_zero];exact hs
   rw[Gl] at hs'
   have hC0:Has C (D.start 0):=by show Has C D.st.n;rw[hn];exact R.has
   obtain⟨C1,hx1,hhas1,ho1,hCh,hsay1,hlooks⟩:=wS D.recs (D.start 0) C hC0 R.ones (H.chain 0 (Nat.zero_le _)).1 H.looks hs'
   have hsay:=wG hsay1
   have hnone:∀ j,(Array.replicate ops.size false).getD j false=false:=by
    intro j
    simp[Array.getD_eq_getD_getElem?,Array.getElem?_replicate]
    split<;>simp
   refine zs D.z ops.size _ ρ C1 0 a _ ⟨by simp,fun j _=>hnone j,?_,?_,Nat.zero_le _,hx1,?_,?_,hsay.1,?_⟩ (by
    refine Nat.le_trans (List.length_filter_le _ _) (by simp)) H.znd (fun z hz=>⟨hz,hnone z⟩) (fun z hz=>.inl hz)
   · intro j hj
     rw[hnone j] at hj;cases hj
   · intro k c hc
     rw[hnone c]
     simp
   · intro i s' gs g c v hi hs'
     obtain rfl:s'=0:=by omega
     exact hsay.2 gs g c v (List.mem_of_getElem? hi)
   · intro i s' n0 gs g a' n x d hi hs'
     obtain rfl:s'=0:=by omega
     exact hlooks n0 gs g a' n x d (List.mem_of_getElem? hi)
   · have R2:=zX (t':=(lI st).t) R (by simp[lI]) (fun t v hv=>by
      simp only[lI,List.getElem?_map,Option.map_eq_some_iff] at hv
      obtain⟨u,hu,rfl⟩:=hv
      split
      · exact .inr hu
      · exact .inl rfl)
     have e:D.at (fun j=>(Array.replicate ops.size false).getD j false) (D.n 0)={ st with t:=(lI st).t,n:=D.n 0 }:=by
      unfold Dr.at
      have hm3:D.mem (fun j=>(Array.replicate ops.size false).getD j false)=D.st.m:=by
       unfold Dr.mem
       have:(D.sl.filter fun x=>(Array.replicate ops.size false).getD x.1 false)=[]:=by
        rw[List.filter_eq_nil_iff]
        intro x _
        rw[hnone x.1];simp
       rw[this];rfl
      have hm2:(D.mem (fun j=>(Array.replicate ops.size false).getD j false)++match D.al with | some (i,b)=>if (Array.replicate ops.size false).getD i false then [b] else [] | none=>[])=st.m:=by
       rw[hm3]
       cases hal:D.al with
       | none=>simp[hmm]
       | some x=>obtain⟨ia,b⟩:=x;simp only[hnone ia];simp[hmm]
      simp only
      congr 1
      rw[← ht]
      refine List.ext_getElem? fun t=>?_
      simp only[jO]
      cases D.st.t[t]? with
      | none=>rfl
      | some v=>
        simp only[Option.map_some,Option.some.injEq]
        cases D.wr t with
        | none=>rfl
        | some j=>
          simp only[hnone j]
          simp
     rw[e]
     refine jR (n:=D.n 0) (st:={ st with t:=(lI st).t }) R2 ?_ hx1 hhas1 ho1 (by rw[hCh];exact R.holds) (by rw[hCh];exact Fr.refl _ _ _)
     show St.blw ⟨(lI st).t,st.m,st.n⟩=true
     rw[← ht,← hmm,← hn]
     exact H.blw
theorem vI (R:Rep B h0 w0 ρ st C a w):Rep B h0 w0 ρ st C a { w with drawn:=w.drawn+1 }:=⟨R.defers,R.size,R.slots,R.blocks,R.fresh,R.inj,R.free,R.holds,⟨R.fr.os,R.fr.tape,R.fr.output,R.fr.size,R.fr.block,R.fr.ghost,R.fr.un⟩,R.base,R.ci,R.cb,R.cs,R.cv,R.cl,R.cp,R.ones⟩
theorem yz (hE:Good P E) {K:St→Fm} (R:Rep B h0 w0 ρ st C a w) (hs:(pO nw P ops st K).says E C) {Q:Exit→Act→World→Prop} (hQp:∀ c a w,¬ Q (.panic c) a w) (hQo:¬ LetsOut Q)
 (hK:∀ ρ st D a w,Ext C D→Rep B h0 w0 ρ st D a w→(K st).says E D→Q .normal a w):wpAny P .any ops Q ops.size (Array.replicate ops.size false) a w:=by
 unfold pO at hs
 split at hs
 · rename_i hck
   exact mF hE hck R hs hQp hQo hK
 · split at hs
   · rename_i hck
     exact mF hE hck R hs hQp hQo hK
   · split at hs
     · rename_i hck
       exact mF hE hck R hs hQp hQo hK
     · split at hs
       · rename_i hck
         exact mF hE hck R hs hQp hQo hK
       · split at hs
         · rename_i hck
           exact mF hE hck R hs hQp hQo hK
         · exact hs.elim
theorem KC (hm:P.follows .mixedOrders=true) (hE:Good P E) {K:St→Fm} (R:Rep B h0 w0 ρ st C a w) (hs:(pO nw P ops st K).says E C) {id:Nat} {Q:Exit→Act→World→Prop}
 (hK:∀ ρ st D a w,Ext C D→Rep B h0 w0 ρ st D a w→(K st).says E D→Q .normal a w):(Code.region id ops true).wp P Q a w:=
 wp_mono (Q:=fun e a w=>e=.normal∧Q .normal a w) (wp_region_any hm (yz hE (vI R) hs (fun c a w h=>by cases h.1) (fun ⟨_,_,h⟩=>by cases h.1) fun ρ st D a w hx R h=>⟨rfl,hK ρ st D a w hx R h⟩)) (fun e a w h=>h.1▸h.2)
end
end Go.Proofs.YtgpanefhaiohnaaGreatDoor
namespace Go.Proofs.YtgpanefhaiohnaaGreatDoor
open Go.RowKit
def VE.known (s:Nat) (b:Bool):VE→VE
 | .wg gs x=>jg (gs.filter fun g=>g != (s,b)) x
 | v=>v
def St.known (st:St) (s:Nat) (b:Bool):St:={ st with t:=(st.t.map (VE.known s b)).set s (.p (.one (.b (.c b)))) }
def yw (st:St) (ops:Array Oper) (o:Oper):Option Bool:=
 match guardOf st ops o with
 | some []=>some true
 | some gs=>match oI st [] gs with
   | some (.c b)=>some b
   | _=>none
 | none=>none
def zN (st:St) (op:Op):Op:=match op with
 | .pick (.tmp s) a b=>match o8 st [] s with
   | some (.c true)=>.move a
   | some (.c false)=>.move b
   | _=>op
 | _=>op
def OL:Op→Bool
 | .buildSlice .. | .alloc _ | .box .. | .store .. | .makeSlice .. | .makeMap .. | .insert ..=>true
 | .call { callee:=.builtin .append,.. }=>true
 | _=>false
def Vj (st:St) (ops:Array Oper) (o:Oper):Option (Nat×BE):=
 if OL o.op then match guardOf st ops o with
  | some ((s,_)::_)=>match st.t[s]? with
    | some (.p (.one (.b (.c _))))=>none
    | some (.p (.one (.b e)))=>some (s,e)
    | _=>none
  | _=>none
 else none
def yY (P:Program) (t:TypeId):Bool:=match P.underlying t with
 | some (.map k _)=>match P.underlying k with
   | some .bool=>true
   | _=>false
 | _=>false
def Di (nw:iy) (P:Program):List Oper→St→List Nat→List (Bool×SE)→(List Oper→St→Fm)→Fm
 | [],_,_,_,_=>.ff
 | o::os,st,ms,es,K=>
   if o.guard.isSome then .ff else
   match o.op with
   | .insert t (.tmp s) (.const (.bool b)) x=>match gW st [] x with
     | some (.one (.s e))=>if o.dst=none∧ms.contains s=true∧yY P t=true∧es.all (fun x=>x.1 != b)=true then Di nw P os st ms (es++[(b,e)]) K else .ff
     | _=>.ff
   | .lookup t (.tmp s) x false=>match gW st [] x,es with
     | some (.one (.b c)),[(b,u),(b',v)]=>if ms.contains s=true∧yY P t=true∧b'=!b then K os (st.lF o.dst (.p (.one (.s (.ite c (if b then u else v) (if b then v else u)))))) else .ff
     | _,_=>.ff
   | op=>match (match op with | .move (.tmp s)=>ms.contains s | _=>false),o.dst with
     | true,some d=>if d<st.t.length then Di nw P os (st.put d .dead) (d::ms) es K else .ff
     | false,some d=>match oZ nw P st [] op with
       | some (.c true,v)=>if ms.contains d=true then .ff else Di nw P os (st.put d (.p v)) ms es K
       | _=>.ff
     | _,none=>.ff
def ji (nw:iy) (P:Program) (ops:Array Oper):Nat→List Oper→St→(St→Fm)→Fm
 | 0,_,_,_=>.ff
 | _+1,[],st,K=>K st
 | k+1,o::os,st,K=>match yw st ops o with
   | some true=>match o.op,o.dst with
     | .makeMap t none,some d=>if yY P t=false then yM nw P ops { o with guard:=none,op:=zN st o.op } st fun st=>ji nw P ops k os st K else if d<st.t.length then Di nw P os (st.put d .dead) [d] [] fun os st=>ji nw P ops k os st K else .ff
     | _,_=>yM nw P ops { o with guard:=none,op:=zN st o.op } st fun st=>ji nw P ops k os st K
   | some false=>match guardOf st ops o with
     | some gs=>ji nw P ops k os (st.lF o.dst (jg gs (.one (.b (.c true))))) K
     | none=>.ff
   | none=>match Vj st ops o with
     | some (s,e)=>.ite e (ji nw P ops k (o::os) (st.known s true) K) (ji nw P ops k (o::os) (st.known s false) K)
     | none=>yM nw P ops o st fun st=>ji nw P ops k os st K
def iy.kn (nw:iy):Bool:=nw.esc.contains 1000005
def NE (nw:iy) (st:St) (c:Operand) (b:Bool):St:=if nw.kn then match c with
 | .tmp s=>match st.t[s]? with
   | some (.p (.one (.b _)))=>st.known s b
   | _=>st
 | _=>st
 else st
def YZ (ops:Array Oper):Bool:=ops.any fun o=>(OL o.op&&o.guard.isSome)||(match o.op with | .makeMap ..=>true | _=>false)
def KH (nw:iy) (P:Program) (ops:Array Oper) (st:St) (K:St→Fm):Fm:=
 if YZ ops then ji nw P ops (3*ops.size+3) ops.toList st K else qV nw P ops ops.toList st K
def G6 (tab:List (List Nat)) (n p:Nat):Bool:=(List.range n).all fun i=>decide (i<p)||(List.range p).all fun j=>(tab.getD i []).contains j
def stays (ops:Array Oper) (p q s:Nat):Bool:=(List.range q).all fun i=>decide (i<p)||decide ((ops[i]?).bind (·.dst)≠some s)
def zC (o:Oper):Oper:={ o with dst:=none,op:=.move (.const (.bool true)),guard:=none }
def nP (st:St) (ops:Array Oper) (p q:Nat) (op:Op):Op:=match op with
 | .pick (.tmp s) _ _=>if stays ops p q s then zN st op else op
 | x=>x
def Ai (st:St) (ops:Array Oper) (p q:Nat) (o:Oper):Oper:=
 match o.guard with
 | some (j,_)=>if j<p then match yw st ops o with
  | some true=>{ o with guard:=none,op:=nP st ops p q o.op }
  | some false=>{ o with guard:=none,op:=.move (.const undef) }
  | none=>o
  else { o with op:=nP st ops p q o.op }
 | none=>{ o with op:=nP st ops p q o.op }
def U9 (st:St) (ops:Array Oper) (p q:Nat):Bool:=(List.range q).all fun i=>decide (i<p)||match ops[i]? with
 | some o=>match o.guard with
   | some (j,_)=>if j<p then (yw st ops o).isSome&&(match (ops[j]?).bind (·.dst) with | some s=>stays ops p q s | none=>false) else decide (j<q)
   | none=>true
 | none=>false
def jX (st:St) (ops:Array Oper) (p q:Nat):Array Oper:=(wZ 0 (ops.toList.take q) fun i o=>if i<p then zC o else Ai st ops p q o).toArray
def JD (st:St) (ops:Array Oper) (p q:Nat):Option (Nat×BE):=(List.range q).findSome? fun i=>if i<p then none else match ops[i]? with
 | some o=>match o.guard with
   | some (j,_)=>if j<p then match guardOf st ops o with
    | some ((s,_)::_)=>match st.t[s]? with
      | some (.p (.one (.b (.c _))))=>none
      | some (.p (.one (.b e)))=>some (s,e)
      | _=>none
    | _=>none
    else none
   | none=>none
 | none=>none
def OH (tab:List (List Nat)) (n p:Nat):Nat:=((List.range n).find? fun q=>decide (p<q)&&G6 tab n q).getD n
def pR (nw:iy) (P:Program) (ops:Array Oper):Nat→Nat→St→(St→Fm)→Fm
 | 0,_,_,_=>.ff
 | k+1,p,st,K=>if p=ops.size then K st else
   let tab:=qB ops.toList []
   let q:=OH tab ops.size p
   if !(G6 tab ops.size p&&G6 tab ops.size q&&decide (p<q)&&decide (q≤ops.size)) then .ff else
   match JD st ops p q with
   | some (s,e)=>.ite e (pR nw P ops k p (st.known s true) K) (pR nw P ops k p (st.known s false) K)
   | none=>if U9 st ops p q then pO nw P (jX st ops p q) st fun st=>pR nw P ops k q st K else .ff
def XY (ops:Array Oper):Bool:=ops.toList.zipIdx.all fun x=>(direct x.1).all fun e=>decide (e<x.2)
def uQ (i:Nat) (oi:Oper) (j:Nat) (o:Oper):Oper:=if (direct oi).all (fun e=>(direct o).contains e)&&decide (i<j) then { o with after:=o.after.push ⟨i,.data⟩ } else o
def jm (ops:Array Oper) (i:Nat) (oi:Oper):Array Oper:=(wZ 0 ops.toList (uQ i oi)).toArray
def tH (ops:Array Oper) (i:Nat) (oi:Oper):Bool:=
 (match oi.op with | .extract _ _=>true | _=>false)&&oi.guard.isNone&&Region.noSelect ops&&
 (List.range ops.size).all fun j=>j==i||(direct oi).contains j||match ops[j]? with | some oj=>(direct oj).contains i||oi.apart ops oj | none=>true
def YU (ops:Array Oper):Option Nat:=(List.range ops.size).reverse.find? fun i=>match ops[i]? with
 | some oi=>tH ops i oi&&(List.range ops.size).any fun j=>decide (i<j)&&match ops[j]? with | some oj=>!(direct oj).contains i&&(direct oi).all (fun e=>(direct oj).contains e) | none=>false
 | none=>false
def yR (nw:iy) (P:Program) (ops:Array Oper) (st:St):Option (Nat×Oper):=match YU ops with
 | some i=>match ops[i]? with
   | some oi=>if (kT nw P (jm ops i oi) st []).fine nw P (jm ops i oi) st&&(kT nw P (jm ops i oi) st []).al.isSome then some (i,oi) else none
   | none=>none
 | none=>none
theorem EO {nw:iy} {P:Program} {ops:Array Oper} {st:St} {i:Nat} {oi:Oper} (h:yR nw P ops st=some (i,oi)):ops[i]? = some oi:=by
 unfold yR at h
 split at h
 · split at h
   · split at h
     · cases h;assumption
     · cases h
   · cases h
 · cases h
def yL (nw:iy) (P:Program) (ops:Array Oper) (st:St) (K:St→Fm):Fm:=
 if (kT nw P ops st []).fine nw P ops st||(kT nw P ops st (Lt ops)).fine nw P ops st||(kT nw.mk1 P ops st []).fine nw.mk1 P ops st then pO nw P ops st K
 else match yR nw P ops st with
 | some (i,oi)=>if tH ops i oi then pO nw P (jm ops i oi) st K else .ff
 | none=>if XY ops then pR nw P ops (3*ops.size+3) 0 st K else .ff
section
variable {P:Program} {E:Env} {B:Nat} {h0:Hp} {w0:World} {ρ:Nat→Nat} {st:St} {C:Ctx} {a:Act} {w:World}
theorem QQ (R:Rep B h0 w0 ρ st C a w) {u:World} (k:Below w.heap.size w u):Rep B h0 w0 ρ st C a u:=
 ⟨R.defers,R.size,R.slots,fun j b h=>by rw[k.block _ (R.owned (List.getElem?_eq_some_iff.1 h).1)];exact R.blocks j b h,R.fresh,R.inj,R.free,R.holds.below k,R.fr.trans (Fr.of_below k) R.base,Nat.le_trans R.base k.size,R.ci,R.cb,R.cs,R.cv,R.cl,R.cp,R.ones⟩
theorem Xo (R:Rep B h0 w0 ρ st C a w) {r:Nat} {es es':Array MapEntry} {k k':Nat} (hr:B≤r) (hn:C.h r=none) (hm:w.heap[r]? = some (.map es k)):Rep B h0 w0 ρ st C a { w with heap:=w.heap.setIfInBounds r (.map es' k') }:=by
 have hne:∀ {j:Nat} {o:Obj},w.heap[j]? = some o→(∀ es k,o≠.map es k)→(w.heap.setIfInBounds r (.map es' k'))[j]? = some o:=by
  intro j o hj ho
  have:j≠r:=fun e=>by subst e;rw[hm] at hj;cases hj;exact ho _ _ rfl
  rw[(MapKept.heap_set hm).2 j this,hj]
 refine⟨R.defers,R.size,R.slots,fun j b h=>hne (R.blocks j b h) (by intro _ _ h;cases h),R.fresh,R.inj,R.free,fun j o h=>(by rw[(MapKept.heap_set hm).2 j (fun e=>by rw[e,hn] at h;cases h)];exact R.holds j o h),⟨R.fr.os,R.fr.tape,R.fr.output,by simpa using R.fr.size,fun j hj h=>?_,R.fr.ghost,R.fr.un⟩,by simpa using R.base,R.ci,R.cb,R.cs,R.cv,R.cl,R.cp,R.ones⟩
 rw[← R.fr.block j hj h]
 exact (MapKept.heap_set hm).2 j (by omega)
theorem mY (R:Rep B h0 w0 ρ st C a w) {s:Nat} {e:BE} {b:Bool} (hs:st.t[s]? = some (.p (.one (.b e)))) (he:e.den C=b):Rep B h0 w0 ρ (st.known s b) C a w:=by
 have hv:a.tmps.getD s undef=.bool b:=by
  have:=R.slots s _ hs
  simp only[VE.holds,PE.den,CE.den] at this
  rw[this,he]
 refine⟨R.defers,by simp[St.known,R.size],fun i v hi=>?_,R.blocks,R.fresh,R.inj,R.free,R.holds,R.fr,R.base,R.ci,R.cb,R.cs,R.cv,R.cl,R.cp,R.ones⟩
 simp only[St.known] at hi
 by_cases hd:s=i
 · subst hd
   rw[List.getElem?_set_self (by simpa using (List.getElem?_eq_some_iff.1 hs).1)] at hi
   cases hi
   simp only[VE.holds,PE.den,CE.den,BE.den]
   exact hv
 · rw[List.getElem?_set_ne hd,List.getElem?_map] at hi
   cases hh:st.t[i]? with
   | none=>rw[hh] at hi;cases hi
   | some y=>
     rw[hh] at hi
     cases hi
     have hy:=R.slots i y hh
     cases y with
     | dead=>trivial
     | p x=>exact hy
     | tup l=>exact hy
     | wg gs x=>
       simp only[VE.known]
       have hiff:dA (gs.filter fun g=>g != (s,b)) a.tmps↔dA gs a.tmps:=by
        constructor
        · intro h g hg
          by_cases hgs:g=(s,b)
          · subst hgs;exact hv
          · exact h g (List.mem_filter.2 ⟨hg,by simpa using hgs⟩)
        · exact fun h g hg=>h g (List.mem_filter.1 hg).1
       by_cases hc:dA gs a.tmps
       · exact jq (hiff.2 hc) (hy.1 hc)
       · rw[hy.2 hc]
         exact jJ fun h=>hc (hiff.1 h)
variable {nw:iy} {ops:Array Oper}
theorem DR (R:Rep B h0 w0 ρ st C a w) {c:Operand} {e:BE} {b:Bool} (hc:gW st [] c=some (.one (.b e))) (he:e.den C=b):Rep B h0 w0 ρ (NE nw st c b) C a w:=by
 unfold NE
 split
 · split
   · rename_i s
     split
     · rename_i e' hs
       have:gW st [] (.tmp s)=some (.one (.b e')):=by simp only[gW,hs]
       rw[hc] at this
       cases this
       exact mY R hs he
     · exact R
   · exact R
 · exact R
theorem yZ {t:TypeId} (h:yY P t=true):∃ k e,P.underlying t=some (.map k e)∧P.underlying k=some .bool:=by
 unfold yY at h
 split at h
 · rename_i k e hk
   split at h
   · exact⟨k,e,hk,by assumption⟩
   · cases h
 · cases h
structure MapAt (B:Nat) (C:Ctx) (a:Act) (w:World) (r:Nat) (ms:List Nat) (es:List (Bool×SE)):Prop where
 b:B≤r
 un:C.h r=none
 obj:∃ xs k,w.heap[r]? = some (.map xs k)∧xs.toList.map (fun x=>(x.key,x.val))=es.map fun x=>(.bool x.1,(CE.s x.2).den C aP)
 ms:∀ s∈ms,a.tmps.getD s undef=.map (some r)
theorem CZ {xs:Array MapEntry} {es:List (Bool×SE)} (h:xs.toList.map (fun x=>(x.key,x.val))=es.map fun x=>(.bool x.1,(CE.s x.2).den C aP)):∀ x∈xs.toList,MapKept.IsKey .bool x.key:=by
 intro x hx
 have:(x.key,x.val)∈es.map fun x=>((.bool x.1,(CE.s x.2).den C aP):Value×Value):=h▸List.mem_map.2 ⟨x,hx,rfl⟩
 obtain⟨y,_,hy⟩:=List.mem_map.1 this
 have hk:x.key=.bool y.1:=(congrArg Prod.fst hy).symm
 rw[hk];trivial
theorem Ll {t:TypeId} {r:Nat} {ms:List Nat} {es:List (Bool×SE)} {b:Bool} {e:SE} (ht:yY P t=true) (M:MapAt B C a w r ms es) (hb:es.all (fun x=>x.1 != b)=true):
 ∃ w',(Instr.mapUpdate t (.map (some r)) (.bool b) ((CE.s e).den C aP)).run P w=.ok () w'∧MapAt B C a w' r ms (es++[(b,e)])∧∀ ρ st h0 w0,Rep B h0 w0 ρ st C a w→Rep B h0 w0 ρ st C a w':=by
 obtain⟨kt,et,hm,hd⟩:=yZ ht
 obtain⟨xs,k,ho,he⟩:=M.obj
 have hks:=CZ he
 rcases MapKept.findNow_spec (d:=.bool) (k:=.bool b) trivial xs.toList 0 hks with ⟨h1,h2⟩ | ⟨j,e',h1,h2,h3⟩
 · refine⟨{ w with heap:=w.heap.setIfInBounds r (.map (xs.push ⟨.bool b,(CE.s e).den C aP,k⟩) (k+1)) },?_,⟨M.b,M.un,⟨_,_,(MapKept.heap_set ho).1,by simp[he]⟩,M.ms⟩,fun ρ st h0 w0 R=>Xo R M.b M.un ho⟩
   simp[Instr.mapUpdate,run_underlying hm,MapKept.run_getObj_map ho,MapKept.run_checkKey hd (show MapKept.IsKey .bool (.bool b) from trivial),MapKept.run_findKey hd h1,MapKept.run_setObj_map _ ho,Result.andThen]
 · exfalso
   have hmem:(e'.key,e'.val)∈es.map fun x=>((.bool x.1,(CE.s x.2).den C aP):Value×Value):=he▸List.mem_map.2 ⟨e',List.mem_of_getElem? h2,rfl⟩
   obtain⟨y,hy,hye⟩:=List.mem_map.1 hmem
   have:=List.all_eq_true.1 hb y hy
   rw[h3] at hye
   have:y.1=b:=by simpa using congrArg Prod.fst hye
   simp_all
theorem Lu {t:TypeId} {r:Nat} {ms:List Nat} {b c:Bool} {u v:SE} (ht:yY P t=true) (M:MapAt B C a w r ms [(b,u),(!b,v)]):
 (Instr.lookup t (.map (some r)) (.bool c) false).run P w=.ok ((CE.s (if c=b then u else v)).den C aP) w:=by
 obtain⟨kt,et,hm,hd⟩:=yZ ht
 obtain⟨xs,k,ho,he⟩:=M.obj
 have hks:=CZ he
 obtain⟨x,y,hxy⟩:∃ x y,xs.toList=[x,y]:=by
  rcases hl:xs.toList with _ | ⟨x,_ | ⟨y,_ | ⟨z,t⟩⟩⟩
  · rw[hl] at he;cases he
  · rw[hl] at he;simp at he
  · exact⟨x,y,rfl⟩
  · rw[hl] at he;simp at he
 rw[hxy] at he
 simp only[List.map_cons,List.map_nil,List.cons.injEq,Prod.mk.injEq,and_true] at he
 obtain⟨⟨e1,e2⟩,e3,e4⟩:=he
 have h1:∃ n,Instr.findNow .bool (.bool c) xs.toList 0=some (some (n,(CE.s (if c=b then u else v)).den C aP)):=by
  rw[hxy]
  cases b<;>cases c<;>simp[Instr.findNow,Instr.sameNow,e1,e2,e3,e4]
 obtain⟨n,h1⟩:=h1
 simp[Instr.lookup,run_underlying hm,MapKept.run_getObj_map ho,MapKept.run_checkKey hd (show MapKept.IsKey .bool (.bool c) from trivial),MapKept.run_findKey hd h1,Result.andThen]
theorem II {K:List Oper→St→Fm} {Q:Exit→Act→World→Prop}:∀ (l:List Oper) {ρ:Nat→Nat} {st:St} {a:Act} {w:World} {r:Nat} {ms:List Nat} {es:List (Bool×SE)},Rep B h0 w0 ρ st C a w→MapAt B C a w r ms es→(Di nw P l st ms es K).says E C→
 (∀ l ρ st a w,Rep B h0 w0 ρ st C a w→(K l st).says E C→wpList P ops Q l a w)→wpList P ops Q l a w:=by
 intro l
 induction l with
 | nil=>intro ρ st a w r ms es R M hs hK;exact hs.elim
 | cons o os ih=>
   intro ρ st a w r ms es R M hs hK
   rw[Di] at hs
   split at hs
   · exact hs.elim
   rename_i hgd
   have hg:o.guard=none:=by simpa using hgd
   have hwant:Region.wanted o (yielded ops a.tmps)=true:=by unfold Region.wanted;rw[hg]
   have gen:o.wp P a w (wpList P ops Q os) Q→wpList P ops Q (o::os) a w:=fun h=>by
    rw[wpList,if_pos hwant];exact .inl h
   refine gen ?_
   have hev:∀ {x p},gW st [] x=some p→a.eval x=p.den C ρ:=fun h=>az R (aK _) h
   split at hs
   · -- insert
     rename_i t s b x hop
     split at hs
     · rename_i e hx
       split at hs
       · rename_i hc
         obtain⟨hdst,hms,hty,hall⟩:=hc
         obtain⟨w',hrun,M',hR⟩:=Ll hty M hall (e:=e)
         have hs1:a.eval (.tmp s)=.map (some r):=M.ms s (by simpa using hms)
         have hr:(execOp a.eval o).run P w=.ok .skip w':=by
          unfold execOp
          rw[hop]
          have h2:a.eval x=(CE.s e).den C aP:=hev hx
          have h3:a.eval (.const (.bool b))=.bool b:=rfl
          simp only[hs1,h2,h3,Sem.run_bind,hrun]
          rfl
         unfold Oper.wp
         rw[hr]
         show wpList P ops Q os (a.put o.dst undef) w'
         rw[hdst]
         exact ih (hR _ _ _ _ R) M' hs hK
       · exact hs.elim
     · exact hs.elim
   · -- lookup
     rename_i t s x hop
     split at hs
     · rename_i c b u b' v hx
       split at hs
       · rename_i hc
         obtain⟨hms,hty,rfl⟩:=hc
         have hs1:a.eval (.tmp s)=.map (some r):=M.ms s (by simpa using hms)
         have h2:a.eval x=.bool (c.den C):=hev hx
         have hr:=Lu hty M (c:=c.den C)
         unfold Oper.wp
         rw[show (execOp a.eval o).run P w=.ok (.value ((CE.s (if c.den C=b then u else v)).den C aP)) w by
          unfold execOp;rw[hop];exact dM (by rw[hs1,h2];exact hr)]
         refine hK os ρ _ _ w (dh R o.dst _ _ ?_) hs
         show CE.den C aP (.s _)=CE.den C ρ (.s _)
         simp only[CE.den,SE.den]
         cases b<;>cases c.den C<;>rfl
       · exact hs.elim
     · exact hs.elim
   · split at hs
     · rename_i d hmv hdst
       split at hs
       · rename_i hlt
         split at hmv
         · rename_i s hop
           have hs1:a.eval (.tmp s)=.map (some r):=M.ms s (by simpa using hmv)
           unfold Oper.wp
           rw[show (execOp a.eval o).run P w=.ok (.value (.map (some r))) w by unfold execOp;rw[hop];simp only[hs1];rfl]
           show wpList P ops Q os (a.put o.dst (.map (some r))) w
           rw[hdst]
           refine ih (xA R d .dead _ (fun _=>trivial)) ⟨M.b,M.un,M.obj,fun s' hs'=>?_⟩ hs hK
           simp only[Act.put]
           by_cases e:d=s'
           · subst e;exact lL (by rw[R.size];exact hlt)
           · rw[getD_set_ne e]
             rcases List.mem_cons.1 hs' with h | h
             · exact absurd h.symm e
             · exact M.ms s' h
         · cases hmv
       · exact hs.elim
     · rename_i d hmv hdst
       split at hs
       · rename_i v hp
         split at hs
         · exact hs.elim
         · rename_i hnd
           unfold Oper.wp
           rw[nN R (aK _) hp rfl]
           show wpList P ops Q os (a.put o.dst _) w
           rw[hdst]
           refine ih (xA R d (.p v) _ (fun _=>rfl)) ⟨M.b,M.un,M.obj,fun s' hs'=>?_⟩ hs hK
           simp only[Act.put]
           rw[getD_set_ne (fun e=>hnd (by subst e;simpa using hs'))]
           exact M.ms s' hs'
       · exact hs.elim
     · exact hs.elim
theorem qR (R:Rep B h0 w0 ρ st C a w) {o:Oper} {b:Bool} (h:yw st ops o=some b):∃ gs,guardOf st ops o=some gs∧(dA gs a.tmps↔b=true):=by
 unfold yw at h
 split at h
 · cases h;exact⟨[],by assumption,by simp[aK]⟩
 · rename_i gs _ hgs
   split at h
   · rename_i b' hg
     cases h
     exact⟨gs,hgs,by rw[← uK R gs [] _ (aK _) hg];simp[BE.den]⟩
   · cases h
 · cases h
theorem Qx (R:Rep B h0 w0 ρ st C a w) (o:Oper):execOp a.eval { o with guard:=none,op:=zN st o.op }=execOp a.eval o:=by
 obtain⟨dst,op,type,pos,after,guard⟩:=o
 simp only
 unfold zN
 split
 · rename_i s x y
   have hval:∀ e,o8 st [] s=some e→a.eval (.tmp s)=.bool (e.den C):=by
    intro e he
    unfold o8 at he
    split at he
    · rename_i e' hx
      cases he
      exact az R (aK _) hx
    · cases he
   split
   · rename_i he
     have:=hval _ he
     simp only[execOp,this,BE.den,asBool]
     rfl
   · rename_i he
     have:=hval _ he
     simp only[execOp,this,BE.den,asBool]
     rfl
   · rfl
 · rfl
theorem A7 (hE:Good P E) {K:St→Fm} {Q:Exit→Act→World→Prop}:∀ (k:Nat) (l:List Oper) {ρ:Nat→Nat} {st:St} {C:Ctx} {a:Act} {w:World},Rep B h0 w0 ρ st C a w→(ji nw P ops k l st K).says E C→
 (∀ ρ st D a w,Ext C D→Rep B h0 w0 ρ st D a w→(K st).says E D→Q .normal a w)→wpList P ops Q l a w:=by
 intro k
 induction k with
 | zero=>intro l ρ st C a w R hs hK;exact hs.elim
 | succ k ih=>
   intro l ρ st C a w R hs hK
   cases l with
   | nil=>exact hK ρ st C a w (Ext.refl C) R hs
   | cons o os=>
     rw[ji] at hs
     split at hs
     · rename_i hd
       obtain⟨gs,hgs,hc⟩:=qR R hd
       have hwant:Region.wanted o (yielded ops a.tmps)=true:=(iG R hgs).2 (hc.2 rfl)
       have hgen:(yM nw P ops { o with guard:=none,op:=zN st o.op } st fun st=>ji nw P ops k os st K).says E C→wpList P ops Q (o::os) a w:=fun hs=>by
        have:=lK (ops:=ops) (Q:=Q) hE R hs (Next:=wpList P ops Q os) fun ρ st D a w hx R hs=>ih os R hs fun ρ st F a w hx2 R hs=>hK ρ st F a w (hx.trans hx2) R hs
        have hrun:=Qx R o
        unfold jT at this
        rw[if_pos (by unfold Region.wanted;rfl)] at this
        rw[wpList,if_pos hwant]
        rcases this with h | h
        · left
          unfold Oper.wp at h⊢
          rw[hrun] at h
          exact h
        · right
          refine⟨?_,h.2⟩
          have h1:=h.1
          unfold Oper.asks at h1⊢
          rw[hrun] at h1
          exact h1
       split at hs
       · rename_i t d hop hdst
         split at hs
         · exact hgen hs
         split at hs
         · rename_i hlt
           rw[wpList,if_pos hwant]
           left
           unfold Oper.wp
           rw[show (execOp a.eval o).run P w=.ok (.value (.map (some w.heap.size))) (w.alloc (.map #[] 0)) by unfold execOp;rw[hop];simp only[Option.map_none,Sem.run_bind,run_makeMap];rfl]
           show wpList P ops Q os (a.put o.dst _) _
           rw[hdst]
           have hbel:Below w.heap.size w (w.alloc (.map #[] 0)):=(Below.refl _ _).alloc (Nat.le_refl _) _
           have hun:C.h w.heap.size=none:=by
            cases hq:C.h w.heap.size with
            | none=>rfl
            | some y=>have:=R.holds.lt (b:=w.heap.size) (by rw[hq];simp);omega
           refine II os (xA (QQ R hbel) d .dead (.map (some w.heap.size)) (fun _=>trivial)) (r:=w.heap.size) ⟨R.base,hun,⟨#[],0,(MapKept.heap_alloc w _).1,rfl⟩,fun s hs'=>?_⟩ hs fun l ρ st a w R hs=>ih l R hs hK
           rw[List.mem_singleton] at hs'
           subst hs'
           exact lL (by rw[R.size];exact hlt)
         · exact hs.elim
       · exact hgen hs
     · rename_i hd
       obtain⟨gs,hgs,hc⟩:=qR R hd
       rw[hgs] at hs
       have hnc:¬ dA gs a.tmps:=fun h=>by have:=hc.1 h;cases this
       have hwant:¬ Region.wanted o (yielded ops a.tmps)=true:=fun h=>hnc ((iG R hgs).1 h)
       rw[wpList,if_neg hwant]
       exact ih os (dh R o.dst _ _ (jJ hnc)) hs hK
     · split at hs
       · rename_i s e hsp
         have hslot:st.t[s]? = some (.p (.one (.b e))):=by
          unfold Vj at hsp
          split at hsp
          · split at hsp
            · split at hsp
              · cases hsp
              · cases hsp;assumption
              · cases hsp
            · cases hsp
          · cases hsp
         cases hb:e.den C
         · exact ih (o::os) (mY R hslot hb) (hs.2 hb) hK
         · exact ih (o::os) (mY R hslot hb) (hs.1 hb) hK
       · exact lK hE R hs fun ρ st D a w hx R hs=>ih os R hs fun ρ st F a w hx2 R hs=>hK ρ st F a w (hx.trans hx2) R hs
theorem EE (hE:Good P E) {K:St→Fm} {Q:Exit→Act→World→Prop} (R:Rep B h0 w0 ρ st C a w) (hs:(KH nw P ops st K).says E C)
 (hK:∀ ρ st D a w,Ext C D→Rep B h0 w0 ρ st D a w→(K st).says E D→Q .normal a w):wpList P ops Q ops.toList a w:=by
 unfold KH at hs
 split at hs
 · exact A7 hE _ _ R hs hK
 · exact ED hE _ R hs hK
end
end Go.Proofs.YtgpanefhaiohnaaGreatDoor
namespace Go.Proofs.YtgpanefhaiohnaaGreatDoor
open Go.RowKit
section
variable {P:Program} {E:Env} {B:Nat} {h0:Hp} {w0:World} {ρ:Nat→Nat} {st:St} {C:Ctx} {a:Act} {w:World} {nw:iy} {ops:Array Oper}
theorem aaf {o o':Oper} {K K':Act→World→Prop} {Q Q':Exit→Act→World→Prop} (hd:o'.dst=o.dst) (he:execOp a.eval o'=execOp a.eval o) (hQ:∀ e a w,Q' e a w→e=.normal)
 (h:∀ a2 w2,(∀ s,o.dst≠some s→a2.tmps.getD s undef=a.tmps.getD s undef)→K a2 w2→K' a2 w2) (hh:o'.wp P a w K Q'):o.wp P a w K' Q:=by
 have hput:∀ (b:Act) (v:Value),b.tmps=a.tmps→∀ s,o.dst≠some s→(b.put o.dst v).tmps.getD s undef=a.tmps.getD s undef:=by
  intro b v hb s hs
  cases hdst:o.dst with
  | none=>show b.tmps.getD s undef=_;rw[hb]
  | some d=>
    show (b.tmps.setIfInBounds d v).getD s undef=_
    rw[getD_set_ne (fun e=>hs (by rw[hdst,e])),hb]
 have hno:¬ LetsOut Q':=fun ⟨a,w,h⟩=>by have:=hQ _ _ _ h;cases this
 unfold Oper.wp at *
 rw[he] at hh
 generalize (execOp a.eval o).run P w=r at *
 cases r with
 | ok n w'=>
   cases n with
   | value v=>exact h _ _ (by intro s hs;exact hput a v rfl s hs) (by rw[← hd];exact hh)
   | skip=>exact h _ _ (by intro s hs;exact hput a undef rfl s hs) (by rw[← hd];exact hh)
   | defer d=>exact h _ _ (by intro s hs;exact hput { a with defers:=d::a.defers } undef rfl s hs) (by rw[← hd];exact hh)
   | enter f args=>
     refine Calls.mono hh ?_
     intro e w'' he
     cases e with
     | returned v=>exact h _ _ (by intro s hs;exact hput a v rfl s hs) (by rw[← hd];exact he)
     | panicked ch=>have:=hQ _ _ _ he;cases this
     | outgrown=>exact absurd he hno
   | row r args=>
     refine Rows.mono hh ?_
     intro v w'' he
     exact h _ _ (by intro s hs;exact hput a v rfl s hs) (by rw[← hd];exact he)
   | _=>exact hh
 | halt x w'=>
   cases x with
   | panic v=>have:=hQ _ _ _ hh;cases this
   | _=>exact hh
theorem nO {p q:Nat} (hq:q≤ops.size) {i:Nat} (hi:i<q):∃ o,ops[i]? = some o∧(jX st ops p q)[i]? = some (if i<p then zC o else Ai st ops p q o):=by
 have hlt:i<ops.size:=by omega
 refine⟨ops[i],Array.getElem?_eq_getElem hlt,?_⟩
 unfold jX
 rw[List.getElem?_toArray,jO,List.getElem?_take_of_lt hi]
 simp[hlt]
theorem JC {p q:Nat} (hq:q≤ops.size):(jX st ops p q).size=q:=by
 unfold jX
 rw[List.size_toArray,mM,List.length_take]
 simp;omega
theorem Fg (o:Oper):(zC o).after=o.after:=rfl
theorem JB {p q:Nat} (o:Oper):(Ai st ops p q o).after=o.after:=by
 unfold Ai
 split
 · split
   · split<;>rfl
   · rfl
 · rfl
theorem QY {p q:Nat} (o:Oper):(Ai st ops p q o).dst=o.dst:=by
 unfold Ai
 split
 · split
   · split<;>rfl
   · rfl
 · rfl
def Closed (ops:Array Oper) (listed:Array Bool):Prop:=∀ i o,ops[i]? = some o→listed.getD i false=true→∀ e∈direct o,listed.getD e false=true
theorem Ku (hdn:∀ i o,ops[i]? = some o→∀ e∈direct o,e<i) {listed:Array Bool} (hc:Closed ops listed):∀ (i:Nat) (o:Oper),ops[i]? = some o→(∀ e∈direct o,listed.getD e false=true)→∀ j∈(qB ops.toList []).getD i [],listed.getD j false=true:=by
 intro i
 induction i using Nat.strongRecOn with
 | _ i ih=>
   intro o ho hd j hj
   obtain⟨o',ho',hh⟩:=mW ops.toList [] i (Nat.zero_le _) j hj
   have ho2:ops[i]? = some o':=by simpa using ho'
   rw[ho] at ho2
   cases ho2
   rcases hh with h | ⟨e,he,hx⟩
   · exact hd j h
   · have hei:=hdn i o ho e he
     have hl:=hd e he
     have hsz:i<ops.size:=(Array.getElem?_eq_some_iff.1 ho).1
     have hoe:=Array.getElem?_eq_getElem (xs:=ops) (i:=e) (by omega)
     exact ih e hei _ hoe (hc e _ hoe hl) j hx
theorem KA (h:XY ops=true):∀ i o,ops[i]? = some o→∀ e∈direct o,e<i:=fun i o ho e he=>by
 have:=List.all_eq_true.1 h (o,i) (by rw[List.mem_zipIdx_iff_getElem?];simpa using ho)
 simpa using List.all_eq_true.1 this e he
theorem Ky {p:Nat} (h:G6 (qB ops.toList []) ops.size p=true) {i j:Nat} (hi:i<ops.size) (hp:p≤i) (hj:j<p):j∈(qB ops.toList []).getD i []:=by
 have:=List.all_eq_true.1 h i (List.mem_range.2 hi)
 rcases Bool.or_eq_true _ _▸this with h | h
 · have:i<p:=by simpa using h
   omega
 · simpa using List.all_eq_true.1 h j (List.mem_range.2 hj)
theorem Nk {p q s:Nat} (h:stays ops p q s=true) {i:Nat} {o:Oper} (hp:p≤i) (hq:i<q) (ho:ops[i]? = some o):o.dst≠some s:=by
 have:=List.all_eq_true.1 h i (List.mem_range.2 hq)
 rcases Bool.or_eq_true _ _▸this with h | h
 · have:i<p:=by simpa using h
   omega
 · rw[ho] at h;simpa using h
theorem vF {listed:Array Bool} {i:Nat} {o:Oper} (ho:ops[i]? = some o):i∈Region.ready .any ops listed↔listed.getD i true=false∧∀ e∈direct o,listed.getD e false=true:=by
 rw[mem_ready]
 constructor
 · rintro⟨h1,o',ho',h2⟩
   rw[ho] at ho';cases ho'
   refine⟨h1,fun e he=>?_⟩
   unfold direct at he
   simp only[List.mem_filterMap] at he
   obtain⟨x,hx,he⟩:=he
   split at he
   · rename_i hb
     cases he
     exact h2 x (Array.mem_toList_iff.1 hx) hb
   · cases he
 · rintro⟨h1,h2⟩
   refine⟨h1,o,ho,fun e he hb=>h2 e.on ?_⟩
   unfold direct
   rw[List.mem_filterMap]
   exact⟨e,Array.mem_toList_iff.2 he,by rw[if_pos hb]⟩
theorem sF {o o':Oper} (h:o'.after=o.after):direct o'=direct o:=by unfold direct;rw[h]
def fJ (n p:Nat):Array Bool:=(List.range n).toArray.map fun i=>decide (i<p)
theorem fU (n p:Nat):(fJ n p).size=n:=by simp[fJ]
theorem eH (n p i:Nat):(fJ n p).getD i false=(decide (i<p)&&decide (i<n)):=by
 unfold fJ
 by_cases h:i<n
 · simp[Array.getD_eq_getD_getElem?,h]
 · simp[Array.getD_eq_getD_getElem?,h]
theorem sS {l:Array Bool} {i:Nat} (h:i<l.size) (b c:Bool):l.getD i b=l.getD i c:=by
 simp[Array.getD_eq_getD_getElem?,h]
theorem Ef {l m:Array Bool} (hs:l.size=m.size) (h:∀ i,i<l.size→l.getD i false=m.getD i false):l=m:=by
 refine Array.ext hs fun i h1 h2=>?_
 have:=h i h1
 simpa[Array.getD_eq_getD_getElem?,h1,h2] using this
theorem Hr {n p:Nat} (h:p<n):(fJ n p).setIfInBounds p true=fJ n (p+1):=by
 refine Ef (by simp[fU]) fun i hi=>?_
 have hi':i<n:=by simpa[fU] using hi
 have:=bK (l:=fJ n p) (i:=p) (j:=i) (by rw[fU];exact h)
 rw[eH] at this⊢
 cases hb:((fJ n p).setIfInBounds p true).getD i false
 · rw[hb] at this
   simp only[Bool.false_eq_true,false_iff,not_or] at this
   have h1:=this.1
   have h2:=this.2
   simp[hi'] at h2⊢
   omega
 · rw[hb] at this
   have:=this.1 rfl
   simp[hi'] at this⊢
   omega
theorem wu (n:Nat):fJ n 0=Array.replicate n false:=by
 refine Ef (by simp[fU]) fun i hi=>?_
 rw[eH]
 simp[Array.getD_eq_getD_getElem?,Array.getElem?_replicate]
 split<;>rfl
theorem Va {p q:Nat} (hdn:∀ i o,ops[i]? = some o→∀ e∈direct o,e<i) (hq:q≤ops.size) {Q:Exit→Act→World→Prop} (hQo:¬ LetsOut Q) (hpq:p≤q):
 ∀ i,i≤p→wpAny P .any (jX st ops p q) Q q (fJ q 0) a w→wpAny P .any (jX st ops p q) Q (q - i) (fJ q i) a w:=by
 intro i
 induction i with
 | zero=>intro _ h;exact h
 | succ i ih=>
   intro hi h
   have h1:=ih (by omega) h
   obtain⟨o,ho,hg⟩:=nO (st:=st) (p:=p) hq (i:=i) (by omega)
   rw[if_pos (by omega)] at hg
   rw[show q - i=(q - (i+1))+1 by omega] at h1
   have hr:i∈Region.ready .any (jX st ops p q) (fJ q i):=by
    rw[vF hg]
    refine⟨?_,fun e he=>?_⟩
    · rw[sS (by rw[fU];omega) true false,eH]
      simp
    · rw[sF (Fg o)] at he
      have:=hdn i o ho e he
      rw[eH]
      simp;omega
   have h2:=h1.2 i hr
   unfold wpOp at h2
   rw[hg] at h2
   simp only at h2
   rw[if_pos (by unfold Region.wanted zC;rfl)] at h2
   rcases h2 with h2 | h2
   · have e:(execOp a.eval (zC o)).run P w=.ok (.value (.bool true)) w:=rfl
     unfold Oper.wp at h2
     rw[e] at h2
     rw[← Hr (by omega)]
     exact h2
   · exact absurd h2.2 hQo
theorem FP {p q:Nat} {a0 a:Act} (R:Rep B h0 w0 ρ st C a0 w) (hfr:∀ s,stays ops p q s=true→a.tmps.getD s undef=a0.tmps.getD s undef) (o:Oper) (g:Option (Nat×Bool)):
 execOp a.eval { o with guard:=g,op:=nP st ops p q o.op }=execOp a.eval o:=by
 obtain⟨dst,op,type,pos,after,guard⟩:=o
 simp only
 unfold nP
 split
 · rename_i s x y
   split
   · rename_i hst
     have hval:∀ e,o8 st [] s=some e→a.eval (.tmp s)=.bool (e.den C):=by
      intro e he
      unfold o8 at he
      split at he
      · rename_i e' hx
        cases he
        have h1:a0.eval (.tmp s)=.bool (e.den C):=az R (aK _) hx
        rw[← h1]
        exact hfr s hst
      · cases he
     unfold zN
     simp only
     split
     · rename_i he
       have:=hval _ he
       simp only[execOp,this,BE.den,asBool]
       rfl
     · rename_i he
       have:=hval _ he
       simp only[execOp,this,BE.den,asBool]
       rfl
     · rfl
   · rfl
 · rfl
theorem Nr {t u:Array Value} {j s:Nat} {ops:Array Oper} (hs:(ops[j]?).bind (·.dst)=some s) (h:t.getD s undef=u.getD s undef):yielded ops t j=yielded ops u j:=by
 unfold yielded
 rw[hs]
 have:∀ v:Array Value,(match v[s]? with | some (.bool b)=>some b | _=>none)=(match v.getD s undef with | .bool b=>some b | _=>none):=by
  intro v
  rw[Array.getD_eq_getD_getElem?]
  cases v[s]? with
  | none=>rfl
  | some x=>cases x<;>rfl
 show (match t[s]? with | some (.bool b)=>some b | _=>none)=(match u[s]? with | some (.bool b)=>some b | _=>none)
 rw[this,this,h]
theorem Zc {p q:Nat} {a0 a:Act} {w1:World} (hq:q≤ops.size) (hok:U9 st ops p q=true) (R:Rep B h0 w0 ρ st C a0 w1) (hfr:∀ s,stays ops p q s=true→a.tmps.getD s undef=a0.tmps.getD s undef) {i:Nat} (hp:p≤i) (hi:i<q)
 {K K':Act→World→Prop} {Q Q':Exit→Act→World→Prop} (hQ:∀ e a w,Q' e a w→e=.normal)
 (hK:∀ a2 w2,(∀ s,stays ops p q s=true→a2.tmps.getD s undef=a0.tmps.getD s undef)→K a2 w2→K' a2 w2) (h:wpOp P (jX st ops p q) Q' i K a w):wpOp P ops Q i K' a w:=by
 have hno:¬ LetsOut Q':=fun ⟨a,w,h⟩=>by have:=hQ _ _ _ h;cases this
 obtain⟨o,ho,hg⟩:=nO (st:=st) (p:=p) hq hi
 rw[if_neg (by omega)] at hg
 have hokI:=List.all_eq_true.1 hok i (List.mem_range.2 hi)
 have hokI:(match ops[i]? with
  | some o=>match o.guard with
    | some (j,_)=>if j<p then (yw st ops o).isSome&&(match (ops[j]?).bind (·.dst) with | some s=>stays ops p q s | none=>false) else decide (j<q)
    | none=>true
  | none=>false)=true:=by
  rcases Bool.or_eq_true _ _▸hokI with h | h
  · have:i<p:=by simpa using h
    omega
  · exact h
 rw[ho] at hokI
 simp only at hokI
 have hdst:∀ s,stays ops p q s=true→o.dst≠some s:=fun s hs=>Nk hs hp hi ho
 have step:∀ (g:Option (Nat×Bool)),({ o with guard:=g,op:=nP st ops p q o.op }:Oper).wp P a w K Q'→o.wp P a w K' Q:=fun g hh=>
  aaf (by rfl) (FP R hfr o g) hQ (fun a2 w2 hs hk=>hK a2 w2 (fun s h=>(hs s (hdst s h)).trans (hfr s h)) hk) hh
 have stepU:K (a.put o.dst undef) w→K' (a.put o.dst undef) w:=fun hk=>hK _ _ (fun s hs=>by
  cases hd:o.dst with
  | none=>exact hfr s hs
  | some d=>
    show (a.tmps.setIfInBounds d undef).getD s undef=_
    rw[getD_set_ne (fun e=>hdst s hs (by rw[hd,e]))]
    exact hfr s hs) hk
 unfold wpOp at h⊢
 rw[hg] at h
 rw[ho]
 simp only at h⊢
 unfold Ai at h
 cases hgu:o.guard with
 | none=>
   rw[hgu] at h
   simp only at h
   rw[if_pos (by unfold Region.wanted;rw[hgu])]
   rw[if_pos (by unfold Region.wanted;rfl)] at h
   rcases h with h | h
   · exact .inl (step none h)
   · exact absurd h.2 hno
 | some jw=>
   obtain⟨j,want⟩:=jw
   rw[hgu] at h hokI
   simp only at h hokI
   by_cases hjp:j<p
   · rw[if_pos hjp] at hokI
     simp only[hjp,if_true] at h
     simp only[Bool.and_eq_true] at hokI
     obtain⟨hdone,hst⟩:=hokI
     cases hs:(ops[j]?).bind (·.dst) with
     | none=>rw[hs] at hst;cases hst
     | some s=>
       rw[hs] at hst
       simp only at hst
       have hy:Region.wanted o (yielded ops a.tmps)=Region.wanted o (yielded ops a0.tmps):=by
        unfold Region.wanted
        rw[hgu]
        simp only
        rw[Nr hs (hfr s hst)]
       cases hd:yw st ops o with
       | none=>rw[hd] at hdone;cases hdone
       | some b=>
         obtain⟨gs,hgs,hc⟩:=qR R hd
         rw[hd] at h
         cases b with
         | true=>
           simp only at h
           rw[if_pos (by rw[hy];exact (iG R hgs).2 (hc.2 rfl))]
           rw[if_pos (by unfold Region.wanted;rfl)] at h
           rcases h with h | h
           · exact .inl (step none h)
           · exact absurd h.2 hno
         | false=>
           simp only at h
           rw[if_neg (by rw[hy];exact fun k=>by have:=hc.1 ((iG R hgs).1 k);cases this)]
           rw[if_pos (by unfold Region.wanted;rfl)] at h
           rcases h with h | h
           · exact stepU h
           · exact absurd h.2 hno
   · rw[if_neg hjp] at hokI
     simp only[hjp,if_false] at h
     have hjq:j<q:=by simpa using hokI
     have hy:Region.wanted { o with op:=nP st ops p q o.op } (yielded (jX st ops p q) a.tmps)=Region.wanted o (yielded ops a.tmps):=by
      unfold Region.wanted
      rw[hgu]
      simp only
      congr 1
      obtain⟨oj,hoj,hgj⟩:=nO (st:=st) (p:=p) hq hjq
      rw[if_neg hjp] at hgj
      unfold yielded
      rw[hgj,hoj]
      simp only[Option.bind_some]
      rw[QY]
     rw[hgu] at hy
     rw[hy] at h
     split
     · rename_i hw
       rw[if_pos hw] at h
       rcases h with h | h
       · exact .inl (step (some (j,want)) h)
       · exact absurd h.2 hno
     · rename_i hw
       rw[if_neg hw] at h
       exact stepU h
def Yr (listed:Array Bool) (q:Nat):Nat:=((List.range q).filter fun j=>!listed.getD j false).length
theorem VA {listed:Array Bool} {q i:Nat} (hi:i<q) (hs:i<listed.size) (hn:listed.getD i false=false):Yr (listed.setIfInBounds i true) q+1=Yr listed q:=by
 unfold Yr
 have e:(List.range q).filter (fun j=>!(listed.setIfInBounds i true).getD j false)=((List.range q).filter fun j=>!listed.getD j false).filter fun j=>j != i:=by
  rw[List.filter_filter]
  refine List.filter_congr fun j _=>?_
  have:=bK (l:=listed) (i:=i) (j:=j) hs
  cases h1:(listed.setIfInBounds i true).getD j false<;>cases h2:listed.getD j false<;>by_cases h3:j=i<;>simp_all
 rw[e]
 have hmem:i∈(List.range q).filter fun j=>!listed.getD j false:=List.mem_filter.2 ⟨List.mem_range.2 hi,by rw[hn];rfl⟩
 have hnd:((List.range q).filter fun j=>!listed.getD j false).Nodup:=List.nodup_range.filter _
 have hone:∀ l:List Nat,l.Nodup→i∈l→(l.filter fun j=>j != i).length+1=l.length:=by
  intro l
  induction l with
  | nil=>intro _ h;cases h
  | cons x xs ih=>
    intro hnd hm
    rw[List.nodup_cons] at hnd
    rcases List.mem_cons.1 hm with rfl | hm
    · have:xs.filter (fun j=>j != i)=xs:=List.filter_eq_self.2 fun y hy=>by
       simp only[bne_iff_ne]
       exact fun e=>hnd.1 (e▸hy)
      simp[this]
    · have hne:x≠i:=fun e=>hnd.1 (e▸hm)
      have:=ih hnd.2 hm
      simp[hne]
      omega
 exact hone _ hnd hmem
theorem VB {listed:Array Bool} {q:Nat} (h:Yr listed q=0):∀ i,i<q→listed.getD i false=true:=by
 intro i hi
 cases hb:listed.getD i false
 · exfalso
   have:i∈(List.range q).filter fun j=>!listed.getD j false:=List.mem_filter.2 ⟨List.mem_range.2 hi,by rw[hb];rfl⟩
   rw[List.eq_nil_of_length_eq_zero h] at this
   cases this
 · rfl
theorem XH {listed:Array Bool} {q:Nat} (h:0<Yr listed q):∃ i,i<q∧listed.getD i false=false∧∀ j,j<i→listed.getD j false=true:=by
 have h1:∃ i,i<q∧listed.getD i false=false:=by
  obtain⟨i,hi⟩:=List.exists_mem_of_length_pos h
  obtain⟨h1,h2⟩:=List.mem_filter.1 hi
  exact⟨i,List.mem_range.1 h1,by simpa using h2⟩
 obtain⟨i,hi⟩:=h1
 induction i using Nat.strongRecOn with
 | _ i ih=>
   by_cases h2:∃ j,j<i∧listed.getD j false=false
   · obtain⟨j,hj,hj2⟩:=h2
     exact ih j hj ⟨by omega,hj2⟩
   · refine⟨i,hi.1,hi.2,fun j hj=>?_⟩
     cases hb:listed.getD j false
     · exact absurd ⟨j,hj,hb⟩ h2
     · rfl
theorem Xu {p q:Nat} {a0:Act} {w1:World} (hdn:∀ i o,ops[i]? = some o→∀ e∈direct o,e<i) (hq:q≤ops.size) (hcq:G6 (qB ops.toList []) ops.size q=true) (hok:U9 st ops p q=true) (R:Rep B h0 w0 ρ st C a0 w1)
 {Q Q':Exit→Act→World→Prop} (hQ:∀ e a w,Q' e a w→e=.normal) (hQn:∀ a w,Q' .normal a w→wpAny P .any ops Q (ops.size - q) (fJ ops.size q) a w):
 ∀ (f:Nat) (L L':Array Bool) (a:Act) (w:World),L.size=ops.size→L'.size=q→(∀ i,i<q→L.getD i false=L'.getD i false)→(∀ i,q≤i→L.getD i false=false)→(∀ i,i<p→L.getD i false=true)→Closed ops L→Yr L' q=f→
  (∀ s,stays ops p q s=true→a.tmps.getD s undef=a0.tmps.getD s undef)→wpAny P .any (jX st ops p q) Q' f L' a w→wpAny P .any ops Q (f+(ops.size - q)) L a w:=by
 intro f
 induction f with
 | zero=>
   intro L L' a w hL hL' hag hhi hlo hcl hu hfr h
   have hall:=VB hu
   have e:L=fJ ops.size q:=Ef (by rw[fU,hL]) fun i hi=>by
    rw[eH]
    by_cases hiq:i<q
    · rw[hag i hiq,hall i hiq];simp[hiq];omega
    · rw[hhi i (by omega)];simp;omega
   rw[Nat.zero_add,e]
   exact hQn a w h.2
 | succ f ih=>
   intro L L' a w hL hL' hag hhi hlo hcl hu hfr h
   obtain⟨m,hm,hmn,hmj⟩:=XH (listed:=L') (q:=q) (by omega)
   rw[show f+1+(ops.size - q)=(f+(ops.size - q))+1 by omega]
   refine⟨fun hr=>?_,fun i hi=>?_⟩
   · exfalso
     have hlt:m<ops.size:=by omega
     have:m∈Region.ready .any ops L:=by
      rw[vF (Array.getElem?_eq_getElem hlt)]
      refine⟨?_,fun e he=>?_⟩
      · rw[sS (by omega) true false,hag m hm,hmn]
      · have:=hdn m _ (Array.getElem?_eq_getElem hlt) e he
        rw[hag e (by omega)]
        exact hmj e this
     rw[hr] at this
     cases this
   · obtain⟨hlt,hun,hdir⟩:=lm hi
     have ho:=Array.getElem?_eq_getElem hlt
     have hiq:i<q:=by
      by_cases h:i<q
      · exact h
      · exfalso
        have:=Ku hdn hcl i _ ho (hdir _ ho) m (Ky hcq hlt (by omega) hm)
        rw[hag m hm,hmn] at this
        cases this
     have hun2:L.getD i false=false:=by rw[← sS (by omega) true false];exact hun
     have hpi:p≤i:=by
      by_cases h:p≤i
      · exact h
      · have:=hlo i (by omega)
        rw[hun2] at this;cases this
     obtain⟨o,ho',hg⟩:=nO (st:=st) (p:=p) hq hiq
     rw[if_neg (by omega)] at hg
     rw[ho] at ho';cases ho'
     have hr':i∈Region.ready .any (jX st ops p q) L':=by
      rw[vF hg]
      refine⟨by rw[sS (by omega) true false,← hag i hiq,hun2],fun e he=>?_⟩
      rw[sF (JB _)] at he
      have:=hdn i _ ho e he
      rw[← hag e (by omega)]
      exact hdir _ ho e he
     refine Zc (st:=st) hq hok R hfr hpi hiq hQ (fun a2 w2 hfr2 hk=>?_) (h.2 i hr')
     have hget:∀ (X:Array Bool),i<X.size→∀ j,j≠i→(X.setIfInBounds i true).getD j false=X.getD j false:=fun X hX j hj=>by
      have:=bK (l:=X) (i:=i) (j:=j) hX
      cases h1:(X.setIfInBounds i true).getD j false<;>cases h2:X.getD j false<;>simp_all
     have hone:∀ (X:Array Bool),i<X.size→(X.setIfInBounds i true).getD i false=true:=fun X hX=>(bK hX).2 (.inl rfl)
     refine ih (L.setIfInBounds i true) (L'.setIfInBounds i true) a2 w2 (by simp[hL]) (by simp[hL']) (fun j hj=>?_) (fun j hj=>?_) (fun j hj=>?_) ?_ ?_ hfr2 hk
     · by_cases e:j=i
       · subst e;rw[hone L (by omega),hone L' (by omega)]
       · rw[hget L (by omega) j e,hget L' (by omega) j e];exact hag j hj
     · rw[hget L (by omega) j (by omega)];exact hhi j hj
     · rw[hget L (by omega) j (by omega)];exact hlo j hj
     · intro j oj hoj hj e he
       rw[bK (by omega)]
       right
       by_cases hji:j=i
       · subst hji
         exact hdir _ hoj e he
       · rw[hget L (by omega) j hji] at hj
         exact hcl j oj hoj hj e he
     · have:=VA (listed:=L') hiq (by omega) (by rw[← hag i hiq];exact hun2)
       omega
theorem Q7 {p q:Nat} (h:p≤q):Yr (fJ q p) q=q - p:=by
 unfold Yr
 have e:((List.range q).filter fun j=>!(fJ q p).getD j false)=(List.range q).filter fun j=>decide (p≤j):=List.filter_congr fun j hj=>by
  have:=List.mem_range.1 hj
  rw[eH]
  simp[this]
  by_cases h:p≤j<;>simp[h]<;>omega
 rw[e]
 have hcount:∀ n m:Nat,m≤n→((List.range n).filter fun j=>decide (m≤j)).length=n - m:=by
  intro n
  induction n with
  | zero=>intro m hm;simp
  | succ n ihn=>
    intro m hm
    rw[List.range_succ,List.filter_append,List.length_append]
    by_cases h:m≤n
    · rw[ihn m h];simp[h];omega
    · have:m=n+1:=by omega
      subst this
      have hz:(List.filter (fun j=>decide (n+1≤j)) (List.range n))=[]:=by
       rw[List.filter_eq_nil_iff]
       intro j hj
       have:=List.mem_range.1 hj
       simp;omega
      rw[hz];simp
 exact hcount q p h
theorem Em (hdn:∀ i o,ops[i]? = some o→∀ e∈direct o,e<i) (p:Nat):Closed ops (fJ ops.size p):=by
 intro i o ho hi e he
 have:=hdn i o ho e he
 have hlt:i<ops.size:=(Array.getElem?_eq_some_iff.1 ho).1
 rw[eH] at hi⊢
 simp at hi⊢
 omega
theorem MJ (n:Nat) (h:n=ops.size):Region.ready .any ops (fJ ops.size n)=[]:=by
 unfold Region.ready
 rw[List.filter_eq_nil_iff]
 intro i hi
 have hi:=List.mem_range.1 hi
 rw[sS (by rw[fU];exact hi) true false,eH]
 simp;omega
theorem MW (hE:Good P E) (hdn:∀ i o,ops[i]? = some o→∀ e∈direct o,e<i) {K:St→Fm} {Q:Exit→Act→World→Prop}:∀ (k p:Nat) {ρ:Nat→Nat} {st:St} {C:Ctx} {a:Act} {w:World},Rep B h0 w0 ρ st C a w→p≤ops.size→(pR nw P ops k p st K).says E C→
 (∀ ρ st D a w,Ext C D→Rep B h0 w0 ρ st D a w→(K st).says E D→Q .normal a w)→wpAny P .any ops Q (ops.size - p) (fJ ops.size p) a w:=by
 intro k
 induction k with
 | zero=>intro p ρ st C a w R hp hs hK;exact hs.elim
 | succ k ih=>
   intro p ρ st C a w R hp hs hK
   rw[pR] at hs
   split at hs
   · rename_i hpn
     exact wpAny_done (MJ p hpn) (hK ρ st C a w (Ext.refl C) R hs) _
   · simp only at hs
     generalize OH (qB ops.toList []) ops.size p=q at hs
     split at hs
     · exact hs.elim
     rename_i hck
     simp only[Bool.not_eq_true,Bool.not_eq_false',Bool.and_eq_true,decide_eq_true_eq] at hck
     obtain⟨⟨⟨hcp,hcq⟩,hpq⟩,hqn⟩:=hck
     split at hs
     · rename_i s e hsp
       have hslot:st.t[s]? = some (.p (.one (.b e))):=by
        unfold JD at hsp
        obtain⟨i,-,hi⟩:=List.exists_of_findSome?_eq_some hsp
        split at hi
        · cases hi
        · split at hi
          · split at hi
            · split at hi
              · split at hi
                · split at hi
                  · cases hi
                  · cases hi;assumption
                  · cases hi
                · cases hi
              · cases hi
            · cases hi
          · cases hi
       cases hb:e.den C
       · exact ih p (mY R hslot hb) hp (hs.2 hb) hK
       · exact ih p (mY R hslot hb) hp (hs.1 hb) hK
     · split at hs
       · rename_i hok
         have hany:=yz (Q:=fun e a w=>e=.normal∧wpAny P .any ops Q (ops.size - q) (fJ ops.size q) a w) hE R hs (fun c a w h=>by cases h.1) (fun ⟨_,_,h⟩=>by cases h.1) fun ρ st D a w hx R hs=>
          ⟨rfl,ih q R hqn hs fun ρ st F a w hx2 R hs=>hK ρ st F a w (hx.trans hx2) R hs⟩
         rw[JC hqn,← wu] at hany
         have h2:=Va hdn hqn (fun ⟨_,_,h⟩=>by cases h.1) (Nat.le_of_lt hpq) p (Nat.le_refl _) hany
         have h3:=Xu hdn hqn hcq hok R (fun e a w h=>h.1) (fun a w h=>h.2) (q - p) (fJ ops.size p) (fJ q p) a w (fU _ _) (fU _ _) (fun i hi=>by
          rw[eH,eH]
          have:i<ops.size:=by omega
          simp[hi,this]) (fun i hi=>by rw[eH];simp;omega) (fun i hi=>by rw[eH];simp;omega) (Em hdn p) (Q7 (Nat.le_of_lt hpq)) (fun _ _=>rfl) h2
         rw[show ops.size - p=q - p+(ops.size - q) by omega]
         exact h3
       · exact hs.elim
theorem qc (i:Nat) (oi:Oper) (j:Nat) (o:Oper):uQ i oi j o=o∨((∀ e∈direct oi,e∈direct o)∧i<j∧uQ i oi j o={ o with after:=o.after.push ⟨i,.data⟩ }):=by
 unfold uQ
 split
 · rename_i h
   simp only[Bool.and_eq_true,List.all_eq_true,decide_eq_true_eq] at h
   exact .inr ⟨fun e he=>by simpa using h.1 e he,h.2,rfl⟩
 · exact .inl rfl
theorem tJ {i j:Nat} {oi:Oper}:(jm ops i oi)[j]? = (ops[j]?).map (uQ i oi j):=by
 unfold jm
 rw[List.getElem?_toArray,jO];simp
theorem Dc {i:Nat} {oi:Oper}:(jm ops i oi).size=ops.size:=by
 unfold jm
 rw[List.size_toArray,mM];simp
theorem Df {i j:Nat} {oi:Oper} {Q:Exit→Act→World→Prop} {K:Act→World→Prop} (h:wpOp P (jm ops i oi) Q j K a w):wpOp P ops Q j K a w:=by
 have hy:∀ t,yielded (jm ops i oi) t=yielded ops t:=fun t=>by
  funext g
  unfold yielded
  rw[tJ]
  cases ops[g]? with
  | none=>rfl
  | some o=>rcases qc i oi g o with e | ⟨-,-,e⟩<;>simp[e]
 unfold wpOp at *
 rw[tJ] at h
 cases ho:ops[j]? with
 | none=>rw[ho] at h;exact h
 | some o=>
   rw[ho] at h
   simp only[Option.map_some,hy] at h
   rcases qc i oi j o with e | ⟨-,-,e⟩<;>rw[e] at h<;>exact h
theorem nI {o:Oper} {x:Nat}:x∈direct o↔∃ e∈o.after,Region.binds .any e=true∧e.on=x:=by
 unfold direct
 simp only[List.mem_filterMap,Array.mem_toList_iff]
 constructor
 · rintro⟨e,he,h⟩
   split at h
   · rename_i hb
     cases h
     exact⟨e,he,hb,rfl⟩
   · cases h
 · rintro⟨e,he,hb,rfl⟩
   exact⟨e,he,by rw[if_pos hb]⟩
theorem qX {i:Nat} {oi:Oper} (hi:ops[i]? = some oi) {listed:Array Bool} (hsz:listed.size=ops.size) (hn:i∉Region.ready .any ops listed):
 Region.ready .any (jm ops i oi) listed=Region.ready .any ops listed:=by
 unfold Region.ready
 rw[Dc]
 refine List.filter_congr fun j _=>?_
 rw[tJ]
 cases ho:ops[j]? with
 | none=>rfl
 | some o=>
   rcases qc i oi j o with e | ⟨h1,h2,e⟩
   · simp only[Option.map_some,e]
   · simp only[Option.map_some,e,Option.getD_some]
     congr 1
     rw[Bool.eq_iff_iff]
     simp only[Array.all_eq_true_iff_forall_mem,Array.mem_push]
     refine⟨fun h e he=>h e (.inl he),fun h e he=>?_⟩
     rcases he with he | rfl
     · exact h e he
     · by_cases hb:listed.getD i false=true
       · simp only[hb,Bool.or_true]
       · have hlt:i<listed.size:=by rw[hsz];exact (Array.getElem?_eq_some_iff.1 hi).1
         refine absurd (mem_ready.2 ⟨?_,oi,hi,fun e he hbd=>?_⟩) hn
         · simp only[Bool.not_eq_true] at hb
           simp only[Array.getD_eq_getD_getElem?,Array.getElem?_eq_getElem hlt,Option.getD_some] at hb⊢
           exact hb
         · obtain⟨e',he',hb',ho'⟩:=nI.1 (h1 _ (nI.2 ⟨e,he,hbd,rfl⟩))
           have h3:=h e' he'
           rw[hb',ho'] at h3
           simpa using h3
theorem TZ {i:Nat} {oi:Oper} (hi:ops[i]? = some oi) (hf:tH ops i oi=true) {Q:Exit→Act→World→Prop} (hQp:∀ c a w,¬ Q (.panic c) a w) (hQo:¬ LetsOut Q):
 ∀ (fuel:Nat) (listed:Array Bool) (a:Act) (w:World),listed.size=ops.size→wpAny P .any (jm ops i oi) Q fuel listed a w→wpAny P .any ops Q fuel listed a w:=by
 have hf':=hf
 unfold tH at hf'
 simp only[Bool.and_eq_true] at hf'
 obtain⟨⟨⟨hop,hgd⟩,hsel⟩,hfr⟩:=hf'
 obtain⟨x,n,hx⟩:∃ x n,oi.op=.extract x n:=by
  split at hop
  · exact⟨_,_,by assumption⟩
  · cases hop
 have hgd:oi.guard=none:=by simpa using hgd
 have hself:uQ i oi i oi=oi:=by
  rcases qc i oi i oi with e | ⟨-,h,-⟩
  · exact e
  · omega
 have hr0:∀ listed,i∈Region.ready .any ops listed→i∈Region.ready .any (jm ops i oi) listed:=fun listed h=>by
  obtain⟨h0,o,ho,hall⟩:=mem_ready.1 h
  obtain rfl:o=oi:=Option.some.inj (ho.symm.trans hi)
  exact mem_ready.2 ⟨h0,o,by rw[tJ,hi,Option.map_some,hself],hall⟩
 intro fuel
 induction fuel with
 | zero=>
   rintro listed a w hsz ⟨h1,h2⟩
   have hn:i∉Region.ready .any ops listed:=fun h=>by
    have:=hr0 _ h
    rw[h1] at this;cases this
   exact⟨by rw[← qX hi hsz hn];exact h1,h2⟩
 | succ fuel ih=>
   rintro listed a w hsz ⟨h0,h1⟩
   by_cases hr:i∈Region.ready .any ops listed
   · have hw:=Df (h1 i (hr0 _ hr))
     have hwant:Region.wanted oi (yielded ops a.tmps)=true:=by unfold Region.wanted;rw[hgd]
     unfold wpOp at hw
     simp only[hi,hwant,if_true] at hw
     rcases hw with hw | ⟨_,hl⟩
     · have hex:execOp a.eval oi=(do pure (.value (← Instr.extract (a.eval x) n))):=by unfold execOp;rw[hx]
       have hk:∃ v,(∀ w,(execOp a.eval oi).run P w=.ok (.value v) w)∧wpAny P .any (jm ops i oi) Q fuel (listed.setIfInBounds i true) (a.put oi.dst v) w:=by
        unfold Oper.wp at hw
        rw[hex] at hw⊢
        unfold Instr.extract at hw⊢
        split at hw
        · split at hw
          · rename_i vs hv v hvn
            refine⟨v,fun w=>?_,?_⟩
            · simp[go_sem]
            · simpa[go_sem,hvn,Oper.upon] using hw
          · exfalso;simp[go_sem,Oper.upon] at hw
        · exfalso;simp[go_sem,Oper.upon] at hw
       obtain⟨v,hrun,hk⟩:=hk
       refine wpAny_first hi (Region.noSelect_spec hsel) (fun c a w h=>absurd h (hQp c _ w)) fuel listed a w (fun j oj hj hne hun hno=>?_) hr (.inl ⟨hwant,hrun⟩) (ih _ _ _ (by simp[hsz]) hk)
       have hjs:j<ops.size:=(Array.getElem?_eq_some_iff.1 hj).1
       have h3:=List.all_eq_true.1 hfr j (List.mem_range.2 hjs)
       simp only[hj,Bool.or_eq_true,beq_iff_eq,hne,false_or] at h3
       rcases h3 with h3 | h3 | h3
       · exfalso
         obtain⟨_,o,ho,hall⟩:=mem_ready.1 hr
         obtain rfl:o=oi:=Option.some.inj (ho.symm.trans hi)
         obtain⟨e,he,hb,rfl⟩:=nI.1 (by simpa using h3)
         have h4:=hall e he hb
         have hlt:e.on<listed.size:=by rw[hsz];exact hjs
         simp only[Array.getD_eq_getD_getElem?,Array.getElem?_eq_getElem hlt,Option.getD_some] at h4 hun
         rw[h4] at hun;cases hun
       · exfalso
         obtain⟨e,he,hb,heq⟩:=nI.1 (by simpa using h3)
         exact hno e he hb heq
       · exact h3
     · exact absurd hl hQo
   · refine⟨by rw[← qX hi hsz hr];exact h0,fun j hj=>?_⟩
     rw[← qX hi hsz hr] at hj
     exact wpOp_mono (fun a w h=>ih _ a w (by simp[hsz]) h) (Df (h1 j hj))
theorem G9 (hm:P.follows .mixedOrders=true) (hE:Good P E) {K:St→Fm} (R:Rep B h0 w0 ρ st C a w) (hs:(yL nw P ops st K).says E C) {id:Nat} {Q:Exit→Act→World→Prop}
 (hK:∀ ρ st D a w,Ext C D→Rep B h0 w0 ρ st D a w→(K st).says E D→Q .normal a w):(Code.region id ops true).wp P Q a w:=by
 unfold yL at hs
 split at hs
 · exact KC hm hE R hs hK
 · split at hs
   · rename_i i oi hld
     have hi:=EO hld
     split at hs
     · rename_i hlf
       refine wp_mono (Q:=fun e a w=>e=.normal∧Q .normal a w) (wp_region_any hm ?_) (fun e a w h=>h.1▸h.2)
       have h1:=yz (Q:=fun e a w=>e=.normal∧Q .normal a w) hE (vI R) hs (fun c a w h=>by cases h.1) (fun ⟨_,_,h⟩=>by cases h.1) fun ρ st D a w hx R h=>⟨rfl,hK ρ st D a w hx R h⟩
       rw[Dc] at h1
       exact TZ hi hlf (fun c a w h=>by cases h.1) (fun ⟨_,_,h⟩=>by cases h.1) _ _ _ _ (by simp) h1
     · exact hs.elim
   · split at hs
     · rename_i hd
       refine wp_region_any hm ?_
       rw[← wu]
       have:=MW (Q:=Q) hE (KA hd) _ 0 (vI R) (Nat.zero_le _) hs hK
       simpa using this
     · exact hs.elim
end
end Go.Proofs.YtgpanefhaiohnaaGreatDoor
namespace Go.Proofs.YtgpanefhaiohnaaGreatDoor
open Go.RowKit
structure dL where
 live:List Nat
 wr:List Nat
 blks:List Nat
def X5 (n:Cnt):CE→CE×Cnt
 | .i k _=>(.i k (.x n.i),{ n with i:=n.i+1 })
 | .b _=>(.b (.x n.b),{ n with b:=n.b+1 })
 | .s _=>(.s (.x n.s),{ n with s:=n.s+1 })
 | .v _=>(.v n.v,{ n with v:=n.v+1 })
 | .c (.fn f)=>(.c (.fn f),n)
 | .c .nilp=>(.pt n.p,{ n with p:=n.p+1 })
 | .c _=>(.v n.v,{ n with v:=n.v+1 })
 | .own k o=>(.own k o,n)
 | .osl k o=>(.osl k o,n)
 | .sl _=>(.sl (.x n.l),{ n with l:=n.l+1 })
 | .pt _=>(.pt n.p,{ n with p:=n.p+1 })
 | .adr _=>(.pt n.p,{ n with p:=n.p+1 })
 | .clo _ _=>(.v n.v,{ n with v:=n.v+1 })
def TG (n:Cnt):List CE→List CE×Cnt
 | []=>([],n)
 | v::vs=>let (x,n1):=X5 n v;let (xs,n2):=TG n1 vs;(x::xs,n2)
def ZE (n:Cnt):VE→VE×Cnt
 | .p (.one c)=>let (x,n):=X5 n c;(.p (.one x),n)
 | .p (.agg l)=>let (x,n):=TG n l;(.p (.agg x),n)
 | _=>(.dead,n)
def VE.kept:VE→VE
 | .p x=>.p x
 | _=>.dead
def X7 (live wr:List Nat) (n:Cnt) (j:Nat):List VE→List VE×Cnt
 | []=>([],n)
 | v::vs=>let (x,n1):=if live.contains j then ZE n v else if wr.contains j then (.dead,n) else (v.kept,n);let (xs,n2):=X7 live wr n1 (j+1) vs;(x::xs,n2)
def X6 (blks:List Nat) (n:Cnt) (j:Nat):List ou→List ou×Cnt
 | []=>([],n)
 | b::bs=>let (x,n1):=if blks.contains j then (let (l,n):=TG n b.cells;(⟨l,b.ty⟩,n)) else (b,n);let (xs,n2):=X6 blks n1 (j+1) bs;(x::xs,n2)
def jC (A:dL) (st:St):St:=
 let (t,n1):=X7 A.live A.wr st.n 0 st.t
 let (m,n2):=X6 (A.blks.filterMap fun s=>match st.t[s]? with | some (VE.p (.one (.own k _)))=>some k | _=>none) n1 0 st.m
 ⟨t,m,n2⟩
def EW (n:Cnt) (g:dw):CE→CE→Option dw
 | .i k (.x j),.i k' e=>if n.i+g.i.length=j∧k=k' then some { g with i:=g.i++[e] } else if k=k'∧.x j=e∧j<n.i then some g else none
 | .b (.x j),.b e=>if n.b+g.b.length=j then some { g with b:=g.b++[e] } else if .x j=e∧j<n.b then some g else none
 | .s (.x j),.s e=>if n.s+g.s.length=j then some { g with s:=g.s++[e] } else if .x j=e∧j<n.s then some g else none
 | .v j,.v i=>if n.v+g.v.length=j then some { g with v:=g.v++[.v i] } else if j=i∧j<n.v then some g else none
 | .v j,.c x=>if n.v+g.v.length=j then some { g with v:=g.v++[.c x] } else none
 | .sl (.x j),.sl e=>if n.l+g.l.length=j then some { g with l:=g.l++[e] } else if .x j=e∧j<n.l then some g else none
 | .pt j,.pt i=>if n.p+g.p.length=j then some { g with p:=g.p++[.pt i] } else if j=i∧j<n.p then some g else none
 | .pt j,.c .nilp=>if n.p+g.p.length=j then some { g with p:=g.p++[.c .nilp] } else none
 | c,e=>if c=e∧c.blw n=true then some g else none
def zg (n:Cnt) (g:dw):List CE→List CE→Option dw
 | [],[]=>some g
 | c::cs,e::es=>(EW n g c e).bind fun g=>zg n g cs es
 | _,_=>none
def LD (n:Cnt) (g:dw):VE→VE→Option dw
 | .dead,_=>some g
 | .p (.one c),.p (.one e)=>EW n g c e
 | .p (.agg l),.p (.agg m)=>zg n g l m
 | _,_=>none
def EZ (n:Cnt) (g:dw):List VE→List VE→Option dw
 | [],[]=>some g
 | c::cs,e::es=>(LD n g c e).bind fun g=>EZ n g cs es
 | _,_=>none
def EX (n:Cnt) (g:dw):List ou→List ou→Option dw
 | [],_=>some g
 | c::cs,e::es=>if c.ty=e.ty then (zg n g c.cells e.cells).bind fun g=>EX n g cs es else none
 | _,_=>none
def xx (n:Cnt) (hd st:St):Option dw:=(EZ n ⟨[],[],[],[],[],[]⟩ hd.t st.t).bind fun g=>EX n g hd.m st.m
def dw.fits (g:dw) (N:Cnt):Bool:=g.v.all fun c=>c.plain&&c.sto N
def loops:Code→Nat
 | .seq a b=>loops a+loops b
 | .cond _ a b=>loops a+loops b
 | .block _ a=>loops a
 | .scope a=>loops a+1
 | .loop a=>loops a+1
 | .rangeFunc _ _ a b=>loops a+loops b
 | _=>0
def wY:Code→Option Nat
 | .seq a b=>match wY a with
   | some l=>some l
   | none=>wY b
 | .label l=>some l
 | _=>none
def xO (l:Nat) (n0:Cnt) (hd st':St):Fm:=
 match xx n0 hd st' with
 | some g=>if !(g.fits st'.n&&decide (hd.n=n0.add g.cnt)) then .ff else .again l n0 hd.n g
 | none=>.ff
def Oy (l:Nat) (A:dL) (st:St) (F:St→Fm):Fm:=
 match xx st.n (jC A st) st with
 | some g=>if !(g.fits st.n&&decide ((jC A st).n=st.n.add g.cnt)) then .ff else .loop l g (F (jC A st))
 | none=>.ff
mutual
def gen (nw:iy) (P:Program) (A:Nat→dL):Code→Nat→St→(Exit→St→Fm)→Fm
 | .skip,_,st,K=>K .normal st
 | .region _ ops false,_,st,K=>KH nw P ops st (K .normal)
 | .region _ ops true,_,st,K=>if P.follows .mixedOrders then yL nw P ops st (K .normal) else .ff
 | .seq a b,l,st,K=>gen nw P A a l st fun e st=>match e with
   | .normal=>gen nw P A b (l+loops a) st K
   | e=>K e st
 | .cond c a b,l,st,K=>match gW st [] c with
   | some (.one (.b (.c true)))=>gen nw P A a l st K
   | some (.one (.b (.c false)))=>gen nw P A b (l+loops a) st K
   | some (.one (.b e))=>.ite e (gen nw P A a l (NE nw st c true) K) (gen nw P A b (l+loops a) (NE nw st c false) K)
   | _=>.ff
 | .block id a,l,st,K=>gen nw P A a l st fun e st=>match e with
   | .exit j=>if j=id then K .normal st else K e st
   | e=>K e st
 | .loop a,l,st,K=>Oy l (A l) st fun hd=>gen nw P A a (l+1) hd fun e st'=>match e with
   | .normal=>xO l st.n hd st'
   | e=>K e st'
 | .scope a,l,st,K=>match wY a with
   | none=>.ff
   | some lb=>Ti nw P A a (l+1) st fun e st1=>match e with
     | .normal=>Oy l (A l) st1 fun hd=>PX nw P A a (l+1) hd fun e st'=>match e with
       | .goto j=>if j=lb then xO l st1.n hd st' else .ff
       | e=>K e st'
     | .goto _=>.ff
     | e=>K e st1
 | .goto j,_,st,K=>K (.goto j) st
 | .exit id,_,st,K=>K (.exit id) st
 | .ret,_,st,K=>K .ret st
 | .label _,_,_,_=>.ff
 | .rangeFunc _ _ _ _,_,_,_=>.ff
 | .refuse _,_,_,_=>.ff
def Ti (nw:iy) (P:Program) (A:Nat→dL):Code→Nat→St→(Exit→St→Fm)→Fm
 | .seq a b,l,st,K=>match wY a with
   | some _=>Ti nw P A a l st K
   | none=>gen nw P A a l st fun e st=>match e with
     | .normal=>Ti nw P A b (l+loops a) st K
     | e=>K e st
 | .label _,_,st,K=>K .normal st
 | _,_,_,_=>.ff
def PX (nw:iy) (P:Program) (A:Nat→dL):Code→Nat→St→(Exit→St→Fm)→Fm
 | .seq a b,l,st,K=>match wY a with
   | some _=>PX nw P A a l st fun e st=>match e with
     | .normal=>gen nw P A b (l+loops a) st K
     | e=>K e st
   | none=>PX nw P A b (l+loops a) st K
 | .label _,_,st,K=>K .normal st
 | _,_,_,_=>.ff
end
def resV (P:Program) (st:St):ResultVar→Option PE
 | .tmp t=>gW st [] (.tmp t)
 | .cell a t=>(gW st [] (.tmp a)).bind (wE P st t)
def Jr (P:Program) (st:St):List ResultVar→Option (List PE)
 | []=>some []
 | r::rs=>match resV P st r,Jr P st rs with
   | some x,some xs=>some (x::xs)
   | _,_=>none
def Xq (P:Program) (fn:Func) (st:St):Fm:=
 match Jr P st fn.results.toList with
 | some [x]=>if x.plain then .ret (.p x) else .ff
 | some xs=>if xs.all PE.plain then .ret (.tup xs) else .ff
 | none=>.ff
def qU (nw:iy) (P:Program) (A:Nat→dL) (fn:Func) (ps:List PE) (n:Cnt):Fm:=
 match fn.body with
 | some c=>
   gen nw P A c 0 ⟨ps.map .p++List.replicate (fn.ntmps - ps.length) .dead,[],n⟩ fun e st=>match e with
    | .normal=>Xq P fn st
    | .ret=>Xq P fn st
    | _=>.ff
 | none=>.ff
def df (nw:iy) (P:Program) (A:Nat→dL) (fn:Func):Fm:=
 match aX P .zero fn.params.toList with
 | some (ps,n)=>qU nw P A fn ps n
 | none=>.ff
end Go.Proofs.YtgpanefhaiohnaaGreatDoor
