/- hindcastlaw29: texts joined: LexN, LexS, TreI, TreK, TreL, TreR, TreS, ScrN, ScrO, ScrP, LexU, LexW, LexY, LexZN. -/
import Derived.Test.YtgpanefhaiohnaaGreatDoorZbf
namespace Go.Proofs.YtgpanefhaiohnaaGreatDoor
open Go.RowKit
attribute [local go_sem] aZ aY ag ai ak aN au aC di jZ pq nY aj says_again fG BE.den IE.den SE.den LE.den AE.den CE.den PE.den VE.den KV.val dw.den dw.cnt iM dU iY allL Ctx.push Ctx.heap Ctx.cut Ctx.bare Ctx.mark Inc.blank List.getD_cons_zero List.getD_cons_succ List.cons_append List.nil_append List.append_nil List.map_cons List.map_nil List.replicate_zero List.replicate_succ aB bQ bu bG bn bY cO aU aT aV bF bD aF aO aH aA ax aS aI bW af and_assoc
theorem Fq {h:Hp} {sl:bg} {xs:List Value} {ty:TypeId} {sz b:Nat} (hs:bJ h sl xs ty sz) (hb:∀ z,sl.a=some z→z.1≠b) (o:HO):bJ (h.set b o) sl xs ty sz:=by
 rcases hs with hs | ⟨c,o',h1,h2,h3⟩
 · exact .inl hs
 · exact .inr ⟨c,o',h1,by rw[bi _ (hb _ h1)];exact h2,h3⟩
def TK:TypeId:=125
def RD:TypeId:=320
theorem Tok.ones (t:Tok):dZ t.cs:=by
 intro u hu
 simp only[Tok.cs,List.mem_cons,List.not_mem_nil,or_false] at hu
 rcases hu with rfl | rfl | rfl | rfl | rfl<;>rfl
end Go.Proofs.YtgpanefhaiohnaaGreatDoor
namespace Go.Proofs.YtgpanefhaiohnaaGreatDoor
open Go.RowKit
attribute [local go_sem] aZ aY ag ai ak aN au aC di jZ pq nY aj says_again fG BE.den IE.den SE.den LE.den AE.den CE.den PE.den VE.den KV.val dw.den dw.cnt iM dU iY allL Ctx.push Ctx.heap Ctx.cut Ctx.bare Ctx.mark Inc.blank List.getD_cons_zero List.getD_cons_succ List.cons_append List.nil_append List.append_nil List.map_cons List.map_nil List.replicate_zero List.replicate_succ aB bQ bu bG bn bY cO aU aT aV bF bD aF aO aH aA ax aS aI bW af and_assoc
def BT:TypeId:=58
theorem FQ {w:World} {b:Nat} {c0 c1 v:Value} {T:TypeId} (hb:w.heap[b]? = some (.cells #[c0,c1] T (0,0))):(w.setCell ⟨b,0,none⟩ v).heap[b]? = some (.cells #[v,c1] T (0,0)):=by
 simp[World.setCell,Array.getElem?_modify,hb]
theorem qN {w:World} {b c:Nat} (hc:c≠b) (v:Value):(w.setCell ⟨b,0,none⟩ v).heap[c]? = w.heap[c]?:=by
 simp[World.setCell,Array.getElem?_modify,Ne.symm hc]
set_option maxHeartbeats 1000000 in
set_option maxRecDepth 100000 in
theorem VX (b:Nat) (w:World) (h0:w.cell? ⟨b,0,none⟩=some (.pointer (some ⟨b,0,none⟩))):
 Calls Tryz.prog 47 #[.pointer (some ⟨b,0,none⟩)] w fun e w'=>e=.returned (.tuple #[])∧w'=w:=by
 obtain⟨j,hj,_⟩:=Option.map_eq_some_iff.1 (show (Tryz.prog.info? BT).map (·.size)=some 2 by kernel_rfl)
 go_enter Tryz.func47,Tryz.ntmps47
 go_wp2
 rw[Lib.run_neq_ptr_same w _ Tryz.underlying55 hj]
 go_wp2
 go_end0
 exact⟨rfl,rfl⟩
set_option maxHeartbeats 1000000 in
set_option maxRecDepth 100000 in
theorem RS (b:Nat) (w:World) (h0:w.cell? ⟨b,0,none⟩=some (.pointer none)) (hsh:w.shape? b=some (BT,2)) (hfz:w.frozen? ⟨b,0,none⟩=false):
 Calls Tryz.prog 47 #[.pointer (some ⟨b,0,none⟩)] w fun e w'=>e=.returned (.tuple #[])∧w'=w.setCell ⟨b,0,none⟩ (.pointer (some ⟨b,0,none⟩)):=by
 obtain⟨j,hj,hjs⟩:=Option.map_eq_some_iff.1 (show (Tryz.prog.info? BT).map (·.size)=some 2 by kernel_rfl)
 go_enter Tryz.func47,Tryz.ntmps47
 go_wp2
 rw[Lib.run_to_unsafe w ⟨b,0,none⟩ Tryz.underlying55 Tryz.underlying120 hj (by rw[hjs];decide) hsh (Nat.zero_lt_succ 1)]
 simp only[Result.andThen]
 rw[Oper.upon_value]
 go_wp2
 rw[run_callFunc_extern Tryz.func65 (by kernel_rfl) (by kernel_rfl) (by kernel_rfl) (e:=Extern.AbiNoEscape.same) (by kernel_rfl)]
 rw[Lib.run_noEscape]
 simp only[Result.andThen]
 rw[Oper.upon_value]
 go_wp2
 rw[Lib.run_from_unsafe w ⟨b,0,none⟩ Tryz.underlying120 Tryz.underlying55 hj hsh (by kernel_rfl)]
 simp only[Result.andThen]
 rw[Oper.upon_value]
 go_wp2
 go_end0
 exact⟨rfl,rfl⟩
def JR (b:Nat) (used:Bool) (sl:bg):List Value:=[if used then .pointer (some ⟨b,0,none⟩) else .pointer none,sl.val]
def GK:Ct Tryz.prog where
 f:=47
 spec:=fun args h φ=>∃ b used sl,args=[.pointer (some ⟨b,0,none⟩)]∧h b=some ⟨JR b used sl,BT⟩∧φ (.tuple #[]) (h.set b ⟨JR b true sl,BT⟩)
 ok:=by
  rintro args h φ w ⟨b,used,sl,rfl,hb,hφ⟩ hH
  have hw:=(hH b _ hb).rw (show BT<1000000 by decide)
  have hlt:=(Array.getElem?_eq_some_iff.1 hw).1
  cases used with
  | true=>
    rw[← set_self hb] at hφ
    refine (VX b w (by rw[Lib.cell_of_heap hw];rfl)).mono ?_
    rintro e w' ⟨rfl,rfl⟩
    exact⟨_,h,rfl,hφ,hH,Fr.refl _ _ _⟩
  | false=>
    refine (RS b w (by rw[Lib.cell_of_heap hw];rfl) (by simp[World.shape?,hw,JR]) (Lib.frozen_of_heap hw 0)).mono ?_
    rintro e w' ⟨rfl,rfl⟩
    refine⟨_,_,rfl,hφ,fun c o hc=>?_,⟨rfl,rfl,rfl,by simp[World.setCell],fun c hc hn=>?_,fun c hc hn=>?_,fun c hc hn=>hn.set (hn.ne hb (show BT<1000000 by decide))⟩⟩
    · by_cases e:c=b
      · subst e
        rw[ax] at hc
        cases hc
        exact .of (FQ hw) (.inl (show BT<1000000 by decide))
      · rw[bi _ e] at hc
        rw[qN e]
        exact hH c o hc
    · exact qN (hn.ne hb (show BT<1000000 by decide)) _
    · rw[bi _ (fun e=>by rw[e,hb] at hn;cases hn)];exact hn
def AY (l:List UInt8):List Value:=l.map fun c=>.int .u8 c.toNat
theorem VT (l m:List UInt8):AY (l++m)=AY l++AY m:=by simp[AY]
structure VP (h:Hp) (b:Nat) (used:Bool) (sl:bg) (l:List UInt8):Prop where
 at_:h b=some ⟨JR b used sl,BT⟩
 own:bJ h sl (AY l) 5 1
 n:sl.n=l.length
 ne:∀ z,sl.a=some z→z.1≠b
 fit:sl.a=none→l=[]
 pos:sl.a≠none→l≠[]
theorem VP.lt {h:Hp} {b:Nat} {used:Bool} {sl:bg} {l:List UInt8} (x:VP h b used sl l) {c:Nat} (hc:h c=none):∀ z,sl.a=some z→z.1≠c:=fun z hz e=>by
 rcases x.own with ⟨h1,_⟩ | ⟨d,o,h1,h2,_⟩
 · rw[h1] at hz;cases hz
 · rw[h1] at hz;cases hz;subst e;rw[hc] at h2;cases h2
theorem XF {c:Int} (h0:0≤c) (h1:c≤255):Value.int .u8 ((ub c).toNat:Nat)=.int .u8 c:=by
 unfold ub
 rw[UInt8.toNat_ofNat']
 congr 1
 omega
set_option maxHeartbeats 2000000 in
set_option maxRecDepth 100000 in
theorem XD (b g cap:Nat) (q:Value) (cur:Array Value) (l:List UInt8) (w:World) (hbk:w.heap[b]? = some (.cells #[q,.slice (some ⟨g,0,none⟩) l.length cap] BT (0,0))) (hg:w.heap[g]? = some (.cells cur 5 (0,0))) (h0:l≠[]) (hcap:l.length≤cap) (hcm:cap≤maxLen)
 (hcs:cur.size=cap) (hcur:∀ (j:Nat) (x:UInt8),l[j]? = some x→cur[j]? = some (Value.int .u8 x.toNat)):
 Calls Tryz.prog 27 #[.pointer (some ⟨b,0,none⟩)] w fun e w'=>e=.returned (.string ⟨l.toArray⟩)∧w'=w.drew.freeze ⟨g,0,none⟩ l.length:=by
 have hl0:l.length≠0:=by simpa using h0
 have c1:w.drew.cell? ⟨b,1,none⟩=some (.slice (some ⟨g,0,none⟩) l.length cap):=by
  have:w.drew.heap[b]? = some (.cells #[q,.slice (some ⟨g,0,none⟩) l.length cap] BT (0,0)):=hbk
  rw[Lib.cell_of_heap this];rfl
 have hSD:(Builtin.unsafeSliceData_ #[56] 84 #[.slice (some ⟨g,0,none⟩) l.length cap]).run Tryz.prog w.drew=.ok (.pointer (some ⟨g,0,none⟩)) w.drew:=
  Lib.run_unsafeSliceData_row _ _ _ _ _ _ (by omega)
 have hUS:(Builtin.unsafeString_ #[84,3] 9 #[.pointer (some ⟨g,0,none⟩),.int .i64 l.length]).run Tryz.prog w.drew=.ok (.string ⟨l.toArray⟩) (w.drew.freeze ⟨g,0,none⟩ l.length):=by
  refine Lib.run_unsafeString_row w.drew 84 3 9 5 Tryz.underlying84 (by kernel_rfl) g cur.size (by have hg':w.drew.heap[g]? = some (.cells cur 5 (0,0)):=hg;simp[World.shape?,hg']) l h0 (by omega) (by unfold maxLen at hcm;omega) ?_
  intro j x hx
  rw[addr_add,Nat.zero_add]
  have hg':w.drew.heap[g]? = some (.cells cur 5 (0,0)):=hg
  rw[Lib.cell_of_heap hg']
  exact hcur j x hx
 have mixed:Tryz.prog.follows .mixedOrders=true:=by kernel_rfl
 go_enter Tryz.func27,Tryz.ntmps27
 go_wp2
 go_region_o
 all_goals (go_wp2;go_ret;exact⟨rfl,rfl⟩)
set_option maxHeartbeats 2000000 in
set_option maxRecDepth 100000 in
theorem XC (b:Nat) (q:Value) (w:World) (hbk:w.heap[b]? = some (.cells #[q,.slice none 0 0] BT (0,0))):
 Calls Tryz.prog 27 #[.pointer (some ⟨b,0,none⟩)] w fun e w'=>e=.returned (.string ⟨#[]⟩)∧w'=w.drew:=by
 have c1:w.drew.cell? ⟨b,1,none⟩=some (.slice none 0 0):=by
  have:w.drew.heap[b]? = some (.cells #[q,.slice none 0 0] BT (0,0)):=hbk
  rw[Lib.cell_of_heap this];rfl
 have hSD:(Builtin.unsafeSliceData_ #[56] 84 #[.slice none 0 0]).run Tryz.prog w.drew=.ok (.pointer none) w.drew:=Lib.run_unsafeSliceData_nil _ _ _ _ _
 have hUS:(Builtin.unsafeString_ #[84,3] 9 #[.pointer none,.int .i64 0]).run Tryz.prog w.drew=.ok (.string .empty) w.drew:=Lib.run_unsafeString_none w.drew _ _ _ none
 have mixed:Tryz.prog.follows .mixedOrders=true:=by kernel_rfl
 go_enter Tryz.func27,Tryz.ntmps27
 go_wp2
 go_region_o
 all_goals (go_wp2;go_ret;exact⟨rfl,rfl⟩)
def Hp.drop (h:Hp) (s:bg):Hp:=match s.a with
 | some z=>h.del z.1
 | none=>h
def Sr:Ct Tryz.prog where
 f:=27
 spec:=fun args h φ=>∃ b used sl l,args=[.pointer (some ⟨b,0,none⟩)]∧VP h b used sl l∧φ (.string (B l)) (h.drop sl)
 ok:=by
  rintro args h φ w ⟨b,used,sl,l,rfl,X,hφ⟩ hH
  have hw:=(hH b _ X.at_).rw (show BT<1000000 by decide)
  rcases X.own with ⟨h1,hx⟩ | ⟨g,o,h1,h2,h3,h4,h5,h6,h7⟩
  · subst h1
    have hl:l=[]:=X.fit rfl
    subst hl
    refine (XC b _ w hw).mono ?_
    rintro e w' ⟨rfl,rfl⟩
    exact⟨_,h,rfl,hφ,fun c o hc=>hH c o hc,⟨rfl,rfl,rfl,Nat.le_refl _,fun _ _ _=>rfl,fun _ _ hn=>hn,fun _ _ hn=>hn⟩⟩
  · have hl:l≠[]:=X.pos (by rw[h1];simp)
    have hg:=(hH g o h2).rw (by rw[h3];decide)
    have hn:=X.n
    have hcells:AY l=o.cs.take l.length:=by rw[h7,hn,Nat.mul_one]
    obtain⟨a,n,c⟩:=sl
    simp only at h1 hn h4 h5 h6
    subst h1 hn
    refine (XD b g c _ o.cs.toArray l w hw (by rw[← h3];exact hg) hl h5 h6 (by simp[h4]) (fun j x hj=>?_)).mono ?_
    · have hlt:=(List.getElem?_eq_some_iff.1 hj).1
      have:(AY l)[j]? = some (Value.int .u8 x.toNat):=by simp[AY,hj]
      rw[hcells,List.getElem?_take,if_pos hlt] at this
      simpa using this
    · rintro e w' ⟨rfl,rfl⟩
      have hfz:∀ k,k≠g→(w.drew.freeze ⟨g,0,none⟩ l.length).heap[k]? = w.heap[k]?:=fun k hk=>by
       unfold World.freeze
       split
       · rfl
       · simp only[Array.getElem?_modify,if_neg hk.symm];rfl
      have hφ':φ (.string (B l)) (h.del g):=hφ
      refine⟨_,h.del g,rfl,hφ',fun k o' hk=>?_,⟨?_,?_,?_,?_,fun k _ hk=>?_,fun k _ hk=>?_,fun k _ hk o ho=>hk o (by simp only[Hp.del] at ho;split at ho;cases ho;exact ho)⟩⟩
      · have hkg:k≠g:=fun e=>by rw[e] at hk;simp[Hp.del] at hk
        rw[hfz k hkg]
        refine hH k o' ?_
        simp only[Hp.del,if_neg hkg] at hk
        exact hk
      · unfold World.freeze;split<;>rfl
      · unfold World.freeze;split<;>rfl
      · unfold World.freeze;split<;>rfl
      · unfold World.freeze;split
        · exact Nat.le_refl _
        · show w.heap.size≤(w.drew.heap.modify g _).size
          rw[Array.size_modify];exact Nat.le_refl _
      · exact hfz k (hk.ne h2 (by rw[h3];decide))
      · simp only[Hp.del];split
        · rfl
        · exact hk
end Go.Proofs.YtgpanefhaiohnaaGreatDoor
namespace Go.Proofs.YtgpanefhaiohnaaGreatDoor
open Go.RowKit
attribute [local go_sem] aZ aY ag ai ak aN au aC aj says_again BE.den IE.den SE.den LE.den AE.den CE.den PE.den VE.den KV.val dw.den dw.cnt iM dU iY allL Ctx.push Ctx.heap Ctx.cut Ctx.bare Ctx.mark Inc.blank List.getD_cons_zero List.getD_cons_succ List.cons_append List.nil_append List.append_nil List.map_cons List.map_nil List.replicate_zero List.replicate_succ aB bQ bu bG bn bY cO aU aT aV bF bD aF aO aH aA ax aS aI bW af and_assoc
def YPT:TypeId:=544
def prn (b:Nat) (lsl:bg) (used:Bool) (sl:bg) (inn:Int):List Value:=[lsl.val,if used then .pointer (some ⟨b,1,none⟩) else .pointer none,sl.val,.int .i64 inn]
theorem zS {w:World} {b c o:Nat} (hc:c≠b) (v:Value):(w.setCell ⟨b,o,none⟩ v).heap[c]? = w.heap[c]?:=by
 simp[World.setCell,Array.getElem?_modify,Ne.symm hc]
end Go.Proofs.YtgpanefhaiohnaaGreatDoor
namespace Go.Proofs.YtgpanefhaiohnaaGreatDoor
open Go.RowKit
attribute [local go_sem] aZ aY ag ai ak aN au aC aj says_again BE.den IE.den SE.den LE.den AE.den CE.den PE.den VE.den KV.val dw.den dw.cnt iM dU iY allL Ctx.push Ctx.heap Ctx.cut Ctx.bare Ctx.mark Inc.blank List.getD_cons_zero List.getD_cons_succ List.cons_append List.nil_append List.append_nil List.map_cons List.map_nil List.replicate_zero List.replicate_succ aB bQ bu bG bn bY cO aU aT aV bF bD aF aO aH aA ax aS aI bW af and_assoc
structure VJ (h:Hp) (b:Nat) (lsl:bg) (used:Bool) (sl:bg) (inn:Int) (l:List UInt8):Prop where
 at_:h b=some ⟨prn b lsl used sl inn,YPT⟩
 own:bJ h sl (AY l) 5 1
 n:sl.n=l.length
 ne:∀ z,sl.a=some z→z.1≠b
 fit:sl.a=none→l=[]
 pos:sl.a≠none→l≠[]
structure Apd (h h':Hp) (w w':World) (s s':bg) (xs:List Value) (bs:ByteArray) (e:TypeId):Prop where
 own:bJ h' s' (xs++Lib.strCells bs) e 1
 n:s'.n=s.n+bs.size
 new:∀ x,s'.a=some x→(∃ z,s.a=some z∧z.1=x.1)∨h x.1=none
 keep:∀ b o,(∀ x,s.a=some x→x.1≠b)→h b=some o→h' b=some o
 holds:Holds h' w'
 fr:Fr w.heap.size h h' w w'
 nil:s'.a=none↔s.a=none∧bs.size=0
theorem uA {h:Hp} {w:World} {ops:Array Oper} {rest:List Oper} {o:Oper} {a:Act} {Q:Exit→Act→World→Prop} (hgd:o.guard=none) (sl x:Operand) (t u:TypeId)
 (ho:o.op=.call { callee:=.builtin .append,args:=#[sl,x],argTypes:=#[t,u] })
 (H:Holds h w) (e:TypeId) (i:TypeInfo) (ht:Tryz.prog.underlying t=some (.slice e)) (hu:Tryz.prog.underlying u=some .string) (hi:Tryz.prog.info? e=some i) (hz:i.zero=some (.int .u8 0))
 (hsize:i.size=1) (hby:i.bytes=1) (s:bg) (xs:List Value) (hs:a.eval sl=s.val) (hown:bJ h s xs e 1) (bs:ByteArray) (hx:a.eval x=.string bs) (h63:s.n+bs.size≤2000000000000) (hT:e<1000000)
 (hk:∀ s' h' w',Apd h h' w w' s s' xs bs e→wpList Tryz.prog ops Q rest (a.put o.dst s'.val) w'):wpList Tryz.prog ops Q (o::rest) a w:=by
 refine wpList_plain hgd fun K hK=>?_
 obtain⟨s',h',w',hr,h2,h3,h4,h5,h6,h7,h8⟩:=xR H ht hu hi hz hsize hby hown bs h63 o.type hT
 unfold Oper.wp execOp
 simp only[ho,resolve,invoke,builtin,Sem.run_bind,Sem.run_pure,Result.andThen_ok,List.map_toArray,List.map_cons,List.map_nil,hs,hx,hr]
 exact hK _ _ (hk s' h' w' ⟨h2,h3,h4,h5,h6,h7,h8⟩)
theorem Nl (s:List UInt8):Lib.strCells (B s)=AY s:=uq s
end Go.Proofs.YtgpanefhaiohnaaGreatDoor
namespace Go.Proofs.YtgpanefhaiohnaaGreatDoor
open Go.RowKit
attribute [local go_sem] aZ aY ag ai ak aN au aC aj says_again BE.den IE.den SE.den LE.den AE.den CE.den PE.den VE.den KV.val dw.den dw.cnt iM dU iY allL Ctx.push Ctx.heap Ctx.cut Ctx.bare Ctx.mark Inc.blank List.getD_cons_zero List.getD_cons_succ List.cons_append List.nil_append List.append_nil List.map_cons List.map_nil List.replicate_zero List.replicate_succ aB bQ bu bG bn bY cO aU aT aV bF bD aF aO aH aA ax aS aI bW af and_assoc
structure Rf (h k:Hp) (b:Nat) (sl sl':bg):Prop where
 keep:∀ c o,c≠b→(∀ z,sl.a=some z→z.1≠c)→h c=some o→k c=some o
 new:∀ z,sl'.a=some z→(∃ y,sl.a=some y∧y.1=z.1)∨h z.1=none
theorem Rf.refl (h:Hp) (b:Nat) (sl:bg):Rf h h b sl sl:=⟨fun _ _ _ _ hc=>hc,fun z hz=>.inl ⟨z,hz,rfl⟩⟩
theorem Rf.trans {h k m:Hp} {b:Nat} {s0 s1 s2:bg} (A:Rf h k b s0 s1) (C:Rf k m b s1 s2) (hb:k b≠none):Rf h m b s0 s2:=by
 refine⟨fun c o hc hs ho=>C.keep c o hc (fun z hz e=>?_) (A.keep c o hc hs ho),fun z hz=>?_⟩
 · rcases A.new z hz with ⟨y,hy,e2⟩ | hn
   · exact hs y hy (e2.trans e)
   · rw[e,ho] at hn;cases hn
 · rcases C.new z hz with ⟨y,hy,e⟩ | hn
   · rcases A.new y hy with hl | hr
     · obtain⟨x,hx,e2⟩:=hl
       exact .inl ⟨x,hx,e2.trans e⟩
     · exact .inr (by rw[← e];exact hr)
   · by_cases hs:∃ y,s0.a=some y∧y.1=z.1
     · exact .inl hs
     · refine .inr ?_
       cases ho:h z.1 with
       | none=>rfl
       | some o=>
         have hzb:z.1≠b:=fun e=>by rw[e] at hn;exact absurd hn hb
         rw[A.keep z.1 o hzb (fun y hy e=>hs ⟨y,hy,e⟩) ho] at hn
         cases hn
theorem Rf.le {h h1 k:Hp} {b:Nat} {sl sl':bg} (hl:dm h h1) (A:Rf h1 k b sl sl'):Rf h k b sl sl':=
 ⟨fun c o hc hs ho=>A.keep c o hc hs (hl c o ho),fun z hz=>by
  rcases A.new z hz with h0 | hn
  · exact .inl h0
  · refine .inr ?_
    cases ho:h z.1 with
    | none=>rfl
    | some o=>rw[hl _ _ ho] at hn;cases hn⟩
theorem VJ.le {h k:Hp} {b:Nat} {lsl sl:bg} {used:Bool} {inn:Int} {l:List UInt8} (X:VJ h b lsl used sl inn l) (hl:dm h k):VJ k b lsl used sl inn l:=
 ⟨hl _ _ X.at_,Y3 X.own hl,X.n,X.ne,X.fit,X.pos⟩
theorem VJ.nn {h:Hp} {b:Nat} {lsl sl:bg} {used:Bool} {inn:Int} {l:List UInt8} (X:VJ h b lsl used sl inn l):h b≠none:=by rw[X.at_];simp
theorem VJ.blk {h:Hp} {b:Nat} {lsl sl:bg} {used:Bool} {inn:Int} {l:List UInt8} (X:VJ h b lsl used sl inn l) {z:Nat×Nat} (hz:sl.a=some z):∃ o,h z.1=some o∧o.ty=5:=by
 rcases X.own with ⟨h1,_⟩ | ⟨d,o,h1,h2,h3,_⟩
 · rw[h1] at hz;cases hz
 · rw[h1] at hz;cases hz;exact⟨o,h2,h3⟩
structure VI (h:Hp) (b:Nat) (lsl:bg) (l:List Ng) (used:Bool) (sl:bg) (inn:Int) (acc:List UInt8):Prop where
 prn:VJ h b lsl used sl inn acc
 row:NG h lsl l
 ne:l≠[]
 nb:∀ z,lsl.a=some z→z.1≠b
 ns:∀ z y,lsl.a=some z→sl.a=some y→z.1≠y.1
theorem VI.le {h k:Hp} {b:Nat} {lsl sl:bg} {l:List Ng} {used:Bool} {inn:Int} {acc:List UInt8} (X:VI h b lsl l used sl inn acc) (hl:dm h k):VI k b lsl l used sl inn acc:=
 ⟨X.prn.le hl,X.row.le hl,X.ne,X.nb,X.ns⟩
theorem VI.aaj {h:Hp} {b:Nat} {lsl sl:bg} {l:List Ng} {used:Bool} {inn:Int} {acc:List UInt8} (X:VI h b lsl l used sl inn acc):∃ z o,lsl.a=some z∧h z.1=some o:=by
 have hn:=NG.n X.row
 have hp:0<l.length:=List.length_pos_iff.2 X.ne
 obtain⟨c,o,ha⟩:=Rows.nn X.row (j:=0) (by omega)
 have hr:=NG.node X.row hp ha
 unfold hread at hr
 simp only at hr
 split at hr
 · rename_i x hx
   exact⟨(c,o),x,ha,hx⟩
 · cases hr
theorem VI.go {h k:Hp} {b:Nat} {lsl sl sl':bg} {l:List Ng} {used used':Bool} {inn inn':Int} {acc acc':List UInt8} (X:VI h b lsl l used sl inn acc) (Y:VJ k b lsl used' sl' inn' acc') (G:Rf h k b sl sl'):VI k b lsl l used' sl' inn' acc':=by
 obtain⟨z,o,hz,ho⟩:=X.aaj
 have hk:=G.keep z.1 o (X.nb z hz) (fun y hy e=>X.ns z y hz hy e.symm) ho
 refine⟨Y,⟨X.row.1,?_⟩,X.ne,X.nb,fun z' y hz' hy=>?_⟩
 · rcases X.row.2 with h0 | hr
   · exact .inl h0
   · refine .inr ?_
     rw[hz] at hr⊢
     unfold hread at hr⊢
     simp only at hr⊢
     rw[ho] at hr
     rw[hk]
     exact hr
 · rw[hz] at hz'
   cases hz'
   rcases G.new y hy with ⟨x,hx,e⟩ | hn
   · rw[← e];exact X.ns z x hz hx
   · intro e
     rw[← e,ho] at hn
     cases hn
end Go.Proofs.YtgpanefhaiohnaaGreatDoor
namespace Go.Proofs.YtgpanefhaiohnaaGreatDoor
open Go.RowKit
attribute [local go_sem] aZ aY ag ai ak aN au aC aj says_again BE.den IE.den SE.den LE.den AE.den CE.den PE.den VE.den KV.val dw.den dw.cnt iM dU iY allL Ctx.push Ctx.heap Ctx.cut Ctx.bare Ctx.mark Inc.blank List.getD_cons_zero List.getD_cons_succ List.cons_append List.nil_append List.append_nil List.map_cons List.map_nil List.replicate_zero List.replicate_succ aB bQ bu bG bn bY cO aU aT aV bF bD aF aO aH aA ax aS aI bW af and_assoc
theorem JM (s:List UInt8) (w:World):Calls Tryz.prog 157 #[.string (B s)] w fun e w'=>e=.returned (.bool (iF s))∧Below w.heap.size w w':=by
 have:=YF.ok [.string (B s)] (fun _=>none) (fun v _=>v=.bool (iF s)) w ⟨s,rfl,rfl⟩ (fun b o h=>by cases h)
 refine this.mono ?_
 rintro e w' ⟨v,k,rfl,rfl,_,F⟩
 exact⟨rfl,F.os,F.tape,F.output,F.size,fun i hi=>F.block i hi (.none rfl)⟩
theorem EL (n:Int):inB n=true↔(97≤n∧n≤122)∨n=95∨(65≤n∧n≤90)∨(48≤n∧n≤57):=by
 unfold inB nZ
 rw[decide_eq_true_iff]
 split
 · constructor<;>intro h<;>omega
 · split
   · constructor<;>intro h<;>omega
   · split
     · constructor<;>intro h<;>omega
     · constructor<;>intro h<;>omega
def bT (p:Int→Bool) (s:List UInt8):Bool:=match s with
 | []=>false
 | c::_=>p c.toNat&&(!iF s&&s.all fun c=>inB c.toNat)
set_option maxHeartbeats 4000000 in
set_option maxRecDepth 1000000 in
theorem IC (g:FuncId) (p:Int→Bool) (hg:∀ (c:Int) w,0≤c→c≤255→Calls Tryz.prog g #[.int .u8 c] w fun e w'=>e=.returned (.bool (p c))∧w'=w) (he:∀ args w,(callFunc g args).run Tryz.prog w=.ok (.enter g args) w) (l:List UInt8) (w:World):
 Calls Tryz.prog 94 #[.string (B l),.func (.func g) #[] #[]] w fun e w'=>e=.returned (.bool (bT p l))∧Below w.heap.size w w':=by
 cases l with
 | nil=>
   have hB0:(B []).toList.isEmpty=true:=by rw[fQ];rfl
   go_enter Tryz.func94,Tryz.ntmps94
   go_wp2
   go_ret
   exact⟨rfl,Below.refl _ _⟩
 | cons c r=>
   have hB0:(B (c::r)).toList.isEmpty=false:=by rw[fQ];rfl
   have hg0:∀ h,(B (c::r))[0]'h=c:=fun h=>UInt8.toNat.inj (by have:=oz (c::r) 0 h;rw[iQ] at this;omega)
   have hc:=c.toNat_lt
   have hgc:∀ w,Calls Tryz.prog g #[.int .u8 (c.toNat:Nat)] w fun e w'=>e=.returned (.bool (p (c.toNat:Nat)))∧w'=w:=fun w=>hg _ w (by omega) (by omega)
   have hcons:c::r=c::r:=rfl
   revert hcons
   generalize hs:c::r=s at *
   intro hcons
   have hpos:0<s.length:=by rw[← hs];simp
   have hLB:bT p s=(p c.toNat&&(!iF s&&s.all fun c=>inB c.toNat)):=by rw[← hs];rfl
   rw[hLB]
   cases hp:p c.toNat with
   | false=>
     rw[hp] at hgc
     go_enter Tryz.func94,Tryz.ntmps94
     go_wp2_with (refine (hgc _).mono ?_;rintro e w' ⟨rfl,rfl⟩)
     go_ret
     exact⟨rfl,Below.refl _ _⟩
   | true=>
     rw[hp] at hgc
     cases hw:iF s with
     | true=>
       have hwd:=JM s
       rw[hw] at hwd
       have e1:∀ args w,(callFunc 157 args).run Tryz.prog w=.ok (.enter 157 args) w:=enters_of Tryz.func157 (by kernel_rfl) rfl
       go_enter Tryz.func94,Tryz.ntmps94
       go_wp2_with (refine (hgc _).mono ?_;rintro e w' ⟨rfl,rfl⟩)
       refine (hwd _).mono ?_
       rintro e w1 ⟨rfl,hb1⟩
       go_wp2
       go_ret
       exact⟨rfl,hb1⟩
     | false=>
       have hwd:=JM s
       rw[hw] at hwd
       have e1:∀ args w,(callFunc 157 args).run Tryz.prog w=.ok (.enter 157 args) w:=enters_of Tryz.func157 (by kernel_rfl) rfl
       go_enter Tryz.func94,Tryz.ntmps94
       go_wp2_with (refine (hgc _).mono ?_;rintro e w' ⟨rfl,rfl⟩)
       refine (hwd _).mono ?_
       rintro e w1 ⟨rfl,hb1⟩
       have hsz1:=hb1.size
       go_wp2
       go_loopw [22,23] (fun _ _ wr=>∃ i:Nat,i≤s.length∧wr.heap[w1.heap.size]? = some (.stringIter (B s) i)∧Below w'.heap.size w' wr∧(s.take i).all (fun c=>inB c.toNat)=true) (fun _ _ wr=>s.length - wr.iterPos w1.heap.size)
       case atStart=>exact⟨0,by omega,World.iter_heap _ _ _,hb1.alloc hsz1 _,by simp⟩
       case round=>
        obtain⟨i,hil,hit,hB,hall⟩:=hrel
        have hwx:w1.heap.size<wr.heap.size:=(Array.getElem?_eq_some_iff.1 hit).1
        by_cases hi:i<s.length
        · have hiB:i<(B s).size:=by rw[dJ];exact hi
          have hg:(B s)[i]'hiB=s[i]:=UInt8.toNat.inj (by have:=oz s i hiB;rw[bt,List.getD_eq_getElem?_getD,List.getElem?_eq_getElem hi,Option.getD_some] at this;omega)
          have hbad:∀ m,m=i→inB (s[i].toNat:Nat)=false→(s.all fun c=>inB c.toNat)=false:=fun m _ h=>by
           rw[List.all_eq_false]
           exact⟨s[i],List.getElem_mem hi,fun hh=>by rw[h] at hh;cases hh⟩
          have hgood:inB ((s[i].toNat:Nat):Int)=true→(s.take (i+1)).all (fun c=>inB c.toNat)=true:=fun h=>by
           rw[List.take_succ_eq_append_getElem hi,List.all_append,hall,List.all_cons,List.all_nil,Bool.and_true,Bool.true_and]
           exact h
          by_cases hx:s[i].toNat<128
          · have hnx:=fun ty=>Lib.run_next_ascii_at (P:=Tryz.prog) wr _ (B s) i ty hit hiB (by rw[hg];exact hx)
            rw[hg] at hnx
            have hit2:=Lib.iterAt_heap wr w1.heap.size (B s) i (i+1) hit
            have hB2:=Lib.below_iterAt hB (k:=w1.heap.size) hsz1 (B s) (i+1)
            generalize wr.iterAt w1.heap.size (B s) (i+1)=w2 at *
            generalize s[i]=x at *
            have hin:=EL ((x.toNat:Nat):Int)
            have hx0:(0:Int)≤x.toNat:=by omega
            cases hi2:inB ((x.toNat:Nat):Int) with
            | true=>
              have HA:=Lib.hid (hgood hi2)
              rw[hi2] at hin
              have HI:=Lib.hid (hin.1 rfl)
              clear hgood hbad hg hall hin hi2
              go_wp2
              all_goals first
               | (exfalso;have:=HI.out;(try simp only[bne_iff_ne,ne_eq,bne_eq_false_iff_eq] at *);omega)
               | (go_roundw;(case rel=>exact⟨i+1,by omega,hit2,hB2,HA.out⟩);(case measure=>simp only[World.iterPos,hit2,hit];omega))
            | false=>
              have HA:=Lib.hid (hbad i rfl hi2)
              have HI:=Lib.hid (mt hin.2 (by rw[hi2];exact Bool.false_ne_true))
              clear hgood hbad hg hall hin hi2
              go_wp2
              all_goals first
               | (exfalso;have:=HI.out;(try simp only[bne_iff_ne,ne_eq,bne_eq_false_iff_eq] at *);omega)
               | (go_ret;exact⟨by rw[HA.out];rfl,hB2⟩)
          · have hnx:=fun ty=>Lib.run_next_any_at (P:=Tryz.prog) wr _ (B s) i ty hit hiB
            obtain⟨d1,d2⟩:=decode_high (B s) i hiB (by rw[hg];omega)
            have d3:=decode_le (B s) i
            have hit2:=Lib.iterAt_heap wr w1.heap.size (B s) i (i+(Utf8.decode (B s) i).2) hit
            have hB2:=Lib.below_iterAt hB (k:=w1.heap.size) hsz1 (B s) (i+(Utf8.decode (B s) i).2)
            have HA:=Lib.hid (hbad i rfl (by
             cases hq:inB ((s[i].toNat:Nat):Int) with
             | false=>rfl
             | true=>have:=(EL _).1 hq;omega))
            generalize Utf8.decode (B s) i=d at *
            generalize wr.iterAt w1.heap.size (B s) (i+d.2)=w2 at *
            clear hgood hbad hg hall
            go_wp2
            all_goals first
             | (exfalso;(try simp only[bne_iff_ne,ne_eq,bne_eq_false_iff_eq] at *);omega)
             | (go_ret;exact⟨by rw[HA.out];rfl,hB2⟩)
        · obtain rfl:i=s.length:=by omega
          have hnx:=fun ty=>Lib.run_next_end_at (P:=Tryz.prog) wr _ (B s) s.length ty hit (by rw[dJ];omega)
          rw[List.take_length] at hall
          have HA:=Lib.hid hall
          clear hall
          go_wp2
          go_ret
          exact⟨by rw[HA.out];rfl,hB⟩
end Go.Proofs.YtgpanefhaiohnaaGreatDoor
namespace Go.Proofs.YtgpanefhaiohnaaGreatDoor
open Go.RowKit
attribute [local go_sem] aZ aY ag ai ak aN au aC aj says_again BE.den IE.den SE.den LE.den AE.den CE.den PE.den VE.den KV.val dw.den dw.cnt iM dU iY allL Ctx.push Ctx.heap Ctx.cut Ctx.bare Ctx.mark Inc.blank List.getD_cons_zero List.getD_cons_succ List.cons_append List.nil_append List.append_nil List.map_cons List.map_nil List.replicate_zero List.replicate_succ aB bQ bu bG bn bY cO aU aT aV bF bD aF aO aH aA ax aS aI bW af and_assoc
def Ia:Fm:=(.C 94 [.S 0,(.one (.c (.fn 95)))] (.p (.B 0)) ⟨0,1,0,0,0,0⟩
 (.ret (.p (.B 0))))
theorem Qe:df ⟨true,[]⟩ Tryz.prog (fun l=>([]:List dL).getD l ⟨[],[],[]⟩) Tryz.f61=Ia:=by kernel_rfl
theorem UJ:aX Tryz.prog .zero Tryz.f61.params.toList=some ([.S 0],⟨0,0,1,0,0,0⟩):=by kernel_rfl
def uC (c:Int):Bool:=c==95||(leB 97 c&&leB c 122)
def Zo (c:Int):Bool:=leB 65 c&&leB c 90
theorem Qr (c:Int) (w:World):Calls Tryz.prog 95 #[.int .u8 c] w fun e w'=>e=.returned (.bool (uC c))∧w'=w:=by
 go_enter Tryz.func95,Tryz.ntmps95
 by_cases h95:c=95
 · subst h95
   go_wp2
   go_ret
   exact⟨rfl,rfl⟩
 · by_cases h97:97≤c
   · go_wp2
     all_goals first
      | (exfalso;omega)
      | (go_ret;exact⟨by simp[uC,leB,h97]<;>(intros;omega),rfl⟩)
   · go_wp2
     all_goals first
      | (exfalso;omega)
      | (go_ret;exact⟨by simp[uC,leB]<;>(intros;omega),rfl⟩)
def G5:Ct Tryz.prog where
 f:=94
 spec:=fun args h φ=>∃ s,args=[.string (B s),.func (.func 95) #[] #[]]∧φ (.bool (bT uC s)) h
 ok:=by
  rintro args h φ w ⟨s,rfl,hφ⟩ hH
  refine (IC 95 uC (fun c w _ _=>Qr c w) (enters_of Tryz.func95 (by kernel_rfl) rfl) s w).mono ?_
  rintro e w' ⟨rfl,hb⟩
  exact⟨_,h,rfl,hφ,hH.below hb,Fr.of_below hb⟩
def xm:Ct Tryz.prog where
 f:=61
 spec:=fun args h φ=>∃ s,args=[.string (B s)]∧φ (.bool (bT uC s)) h
 ok:=by
  rintro args h φ w ⟨s,rfl,hφ⟩ hH
  refine dD Tryz.func61 Qe UJ [G5] φ (ig) (eX) ⟨[],[],[s],[],[],[],h,dY⟩ ⟨rfl,rfl,rfl,rfl,rfl,rfl⟩ af ?_ w hH rfl
  generalize hE:(⟨aB _,_,_,_⟩:Env)=E
  have s_ctTNameL:E.spec 94=(G5).spec:=by rw[← hE];rfl
  have ep:E.post=φ:=by rw[← hE]
  clear hE
  unfold Ia
  rw[ak,if_pos (by rfl),s_ctTNameL]
  refine⟨s,rfl,?_⟩
  refine⟨fun h=>(by cases h),(ah _ _).2 ⟨⟨[],[bT uC s],[],[],[],[]⟩,rfl,af,rfl,?_⟩⟩
  rw[ae,aj,ep]
  exact hφ
end Go.Proofs.YtgpanefhaiohnaaGreatDoor
namespace Go.Proofs.YtgpanefhaiohnaaGreatDoor
open Go.RowKit
attribute [local go_sem] aZ aY ag ai ak aN au aC aj says_again BE.den IE.den SE.den LE.den AE.den CE.den PE.den VE.den KV.val dw.den dw.cnt iM dU iY allL Ctx.push Ctx.heap Ctx.cut Ctx.bare Ctx.mark Inc.blank List.getD_cons_zero List.getD_cons_succ List.cons_append List.nil_append List.append_nil List.map_cons List.map_nil List.replicate_zero List.replicate_succ aB bQ bu bG bn bY cO aU aT aV bF bD aF aO aH aA ax aS aI bW af and_assoc
def Cc:Fm:=(.N (.X (.c 2) (.x 0))
 (.O (.el (.x 0) (.c 2) 1 0) 1 [(.s (.x 0))] ⟨0,0,1,0,0,0⟩
 (.C 61 [.S 0] (.p (.B 0)) ⟨0,1,0,0,0,0⟩
 (.ite (.not (.x 0))
 (.ret (.p (.one (.b (.c false)))))
 (.N (.X (.c 0) (.x 0))
 (.O (.el (.x 0) (.c 0) 1 0) 1 [(.s (.x 1))] ⟨0,0,1,0,0,0⟩
 (.ite (.eqS (.x 1) (.c [100,111,119,110]))
 (.Z 0
 (.Z 0
 (.Z 0
 (.O (.pt 0 9) 1 [(.sl (.x 1))] ⟨0,0,0,0,1,0⟩
 (.mk [.J 0,(.i .i64 (.c 2)),(.i .i64 (.c 0))] 53 1
 (.app (.x 1) (.x 2) 3 24 53
 (.Z 0
 (.Z 0
 (.Z 0
 (.store (.pt 0 9) [(.sl (.x 3))]
 (.O (.pt 0 10) 1 [(.sl (.x 4))] ⟨0,0,0,0,1,0⟩
 (.O (.el (.x 0) (.c 2) 1 0) 1 [(.s (.x 2))] ⟨0,0,1,0,0,0⟩
 (.Z 0
 (.Z 0
 (.N (.X (.c 2) (.x 0))
 (.mk [(.s (.x 2))] 9 1
 (.app (.x 4) (.x 5) 1 16 9
 (.Z 0
 (.Z 0
 (.store (.pt 0 10) [(.sl (.x 6))]
 (.ret (.p (.one (.b (.c true)))))))))))))))))))))))))
 (.N (.X (.c 0) (.x 0))
 (.O (.el (.x 0) (.c 0) 1 0) 1 [(.s (.x 2))] ⟨0,0,1,0,0,0⟩
 (.ite (.not (.eqS (.x 2) (.c [117,112])))
 (.ret (.p (.one (.b (.c false)))))
 (.Z 0
 (.Z 0
 (.Z 0
 (.O (.pt 0 9) 1 [(.sl (.x 1))] ⟨0,0,0,0,1,0⟩
 (.mk [.J 0,(.i .i64 (.c 1)),(.i .i64 (.c 0))] 53 1
 (.app (.x 1) (.x 2) 3 24 53
 (.Z 0
 (.Z 0
 (.Z 0
 (.store (.pt 0 9) [(.sl (.x 3))]
 (.O (.pt 0 10) 1 [(.sl (.x 4))] ⟨0,0,0,0,1,0⟩
 (.O (.el (.x 0) (.c 2) 1 0) 1 [(.s (.x 3))] ⟨0,0,1,0,0,0⟩
 (.Z 0
 (.Z 0
 (.N (.X (.c 2) (.x 0))
 (.mk [(.s (.x 3))] 9 1
 (.app (.x 4) (.x 5) 1 16 9
 (.Z 0
 (.Z 0
 (.store (.pt 0 10) [(.sl (.x 6))]
 (.ret (.p (.one (.b (.c true)))))))))))))))))))))))))))))))))))
theorem KW:df ⟨true,[]⟩ Tryz.prog (fun l=>([]:List dL).getD l ⟨[],[],[]⟩) Tryz.f38=Cc:=by kernel_rfl
theorem QK:aX Tryz.prog .zero Tryz.f38.params.toList=some ([.P 0,.L 0,.J 0],⟨1,0,0,0,1,1⟩):=by kernel_rfl
abbrev gU:List UInt8→Bool:=bT uC
theorem Dp {x:gu} {wd a:List UInt8} {n:Int}:
 (gU a=false→named gU x wd n a=none)∧(gU a=true→wd=lC→named gU x wd n a=some { x with acts:=x.acts++[(n,0,2)],names:=x.names++[a] })∧
 (gU a=true→wd=Pi→named gU x wd n a=some { x with acts:=x.acts++[(n,0,1)],names:=x.names++[a] })∧(wd≠lC→wd≠Pi→named gU x wd n a=none):=by
 refine⟨fun h=>?_,?_,?_,fun h1 h2=>?_⟩
 · unfold named;rw[if_pos h]
 · rintro h rfl
   unfold named;rw[if_neg (by rw[h];decide)];rfl
 · rintro h rfl
   unfold named;rw[if_neg (by rw[h];decide)];rfl
 · unfold named;rw[if_neg h2,if_neg h1];split<;>rfl
set_option maxHeartbeats 4000000 in
def GV:Ct Tryz.prog where
 f:=38
 spec:=fun args h φ=>∃ h0 b q x s wd m a n,args=[.pointer (some ⟨b,0,none⟩),s.val,.int .i64 n]∧Sps h0 h b q x∧Row h0 s (bZ [wd,m,a]) 3 1∧x.acts.length≤500000∧x.names.length≤500000∧doneSpec h0 b (named gU x wd n a) φ
 ok:=by
  rintro args h φ w ⟨h0,b,q,x,s,wd,m,a,n,rfl,H,R,hla,hln,hφ,hψ⟩ hH
  refine dD Tryz.func38 KW QK [xm] φ (ig) (eX) ⟨[n],[],[],[],[s],[some (b,0)],h,dY⟩ ⟨rfl,rfl,rfl,rfl,rfl,rfl⟩ af ?_ w hH rfl
  generalize hE:(⟨aB _,_,_,_⟩:Env)=E
  have s_ctTName:E.spec 61=(xm).spec:=by rw[← hE];rfl
  have ep:E.post=φ:=by rw[← hE]
  clear hE
  unfold Cc
  obtain⟨y1,y2,y3,y4⟩:=Dp (x:=x) (wd:=wd) (n:=n) (a:=a)
  have hn:=R.cnt
  have hns:=R.nns (by decide)
  have R':Row h s (bZ [wd,m,a]) 3 1:=R.le H.fit.le
  rw[ag];refine⟨by simp[go_sem,hn,hns],?_⟩
  rw[ae,au,if_pos (by rfl)]
  refine (ah _ _).2 ⟨⟨[],[],[a],[],[],[]⟩,rfl,af,R'.str (k:=2) rfl,?_⟩
  rw[ae,ak,if_pos (by rfl),s_ctTName]
  refine⟨a,rfl,?_⟩
  refine⟨fun h=>(by cases h),(ah _ _).2 ⟨⟨[],[bT uC a],[],[],[],[]⟩,rfl,af,rfl,?_⟩⟩
  cases hnm:bT uC a with
  | false=>
    rw[ae,ai,if_pos (by simp[go_sem])]
    rw[ae,aj,ep]
    exact hψ (y1 hnm) h H.fit.le
  | true=>
  rw[ae,ai,if_neg (by simp[go_sem])]
  rw[ae,ag];refine⟨by simp[go_sem,hn,hns],?_⟩
  rw[ae,au,if_pos (by rfl)]
  refine (ah _ _).2 ⟨⟨[],[],[wd],[],[],[]⟩,rfl,af,R'.str (k:=0) rfl,?_⟩
  by_cases e1:wd=lC
  · rw[ae,ai,if_pos (by simp[go_sem];exact e1)]
    iterate 3 (rw[ae,ag];refine⟨by simp[go_sem],?_⟩)
    rw[ae,au,if_pos (by rfl)]
    refine (ah _ _).2 ⟨⟨[],[],[],[],[q.a],[]⟩,rfl,af,lM H.blk rfl,?_⟩
    rw[ae,di]
    intro b1 hb1
    have hb1:h b1=none:=hb1
    rw[ae]
    refine dV (h:=h) (sl:=q.a) (xs:=eP x.acts) (cs:=eP [(n,0,2)]) (b1:=b1) rfl rfl H.w.a (by simp[go_sem,eP]) hb1 rfl (jd _) (by have:=H.w.a';omega) (by decide) fun s' k1 o1 n1 f1 g1=>?_
    obtain⟨hkb,H1⟩:=H.act (n,0,2) o1 n1 f1 g1
    iterate 3 (rw[ae,ag];refine⟨by simp[go_sem],?_⟩)
    rw[ae,aC]
    refine⟨_,jr hkb (Nat.le_of_ble_eq_true rfl) (by decide),?_⟩
    rw[ae,au,if_pos (by rfl)]
    refine (ah _ _).2 ⟨⟨[],[],[],[],[q.n],[]⟩,rfl,af,lM H1.blk rfl,?_⟩
    rw[ae,au,if_pos (by rfl)]
    refine (ah _ _).2 ⟨⟨[],[],[a],[],[],[]⟩,rfl,af,(R.le H1.fit.le).str (k:=2) rfl,?_⟩
    iterate 2 (rw[ae,ag];refine⟨by simp[go_sem],?_⟩)
    rw[ae,ag];refine⟨by simp[go_sem,hn,hns],?_⟩
    rw[ae,di]
    intro b2 hb2
    rw[ae]
    refine dV (h:=k1.set b ⟨bz { q with a:=s' } { x with acts:=x.acts++[(n,0,2)] },ST⟩) (sl:=q.n) (xs:=bZ x.names) (cs:=bZ [a]) (b1:=b2) rfl rfl H1.w.n rfl hb2 rfl (gX _) (by have:=H.w.n';omega) (by decide) fun s2 k2 o2 n2 f2 g2=>?_
    obtain⟨hkb2,H2⟩:=H1.name a o2 n2 f2 g2
    iterate 2 (rw[ae,ag];refine⟨by simp[go_sem],?_⟩)
    rw[ae,aC]
    refine⟨_,jr hkb2 (Nat.le_of_ble_eq_true rfl) (by decide),?_⟩
    rw[ae,aj,ep]
    exact hφ _ (y2 hnm e1) _ _ H2
  rw[ae,ai,if_neg (by simp[go_sem];exact e1)]
  rw[ae,ag];refine⟨by simp[go_sem,hn,hns],?_⟩
  rw[ae,au,if_pos (by rfl)]
  refine (ah _ _).2 ⟨⟨[],[],[wd],[],[],[]⟩,rfl,af,R'.str (k:=0) rfl,?_⟩
  by_cases e2:wd=Pi
  · rw[ae,ai,if_neg (by simp[go_sem];exact e2)]
    iterate 3 (rw[ae,ag];refine⟨by simp[go_sem],?_⟩)
    rw[ae,au,if_pos (by rfl)]
    refine (ah _ _).2 ⟨⟨[],[],[],[],[q.a],[]⟩,rfl,af,lM H.blk rfl,?_⟩
    rw[ae,di]
    intro b1 hb1
    have hb1:h b1=none:=hb1
    rw[ae]
    refine dV (h:=h) (sl:=q.a) (xs:=eP x.acts) (cs:=eP [(n,0,1)]) (b1:=b1) rfl rfl H.w.a (by simp[go_sem,eP]) hb1 rfl (jd _) (by have:=H.w.a';omega) (by decide) fun s' k1 o1 n1 f1 g1=>?_
    obtain⟨hkb,H1⟩:=H.act (n,0,1) o1 n1 f1 g1
    iterate 3 (rw[ae,ag];refine⟨by simp[go_sem],?_⟩)
    rw[ae,aC]
    refine⟨_,jr hkb (Nat.le_of_ble_eq_true rfl) (by decide),?_⟩
    rw[ae,au,if_pos (by rfl)]
    refine (ah _ _).2 ⟨⟨[],[],[],[],[q.n],[]⟩,rfl,af,lM H1.blk rfl,?_⟩
    rw[ae,au,if_pos (by rfl)]
    refine (ah _ _).2 ⟨⟨[],[],[a],[],[],[]⟩,rfl,af,(R.le H1.fit.le).str (k:=2) rfl,?_⟩
    iterate 2 (rw[ae,ag];refine⟨by simp[go_sem],?_⟩)
    rw[ae,ag];refine⟨by simp[go_sem,hn,hns],?_⟩
    rw[ae,di]
    intro b2 hb2
    rw[ae]
    refine dV (h:=k1.set b ⟨bz { q with a:=s' } { x with acts:=x.acts++[(n,0,1)] },ST⟩) (sl:=q.n) (xs:=bZ x.names) (cs:=bZ [a]) (b1:=b2) rfl rfl H1.w.n rfl hb2 rfl (gX _) (by have:=H.w.n';omega) (by decide) fun s2 k2 o2 n2 f2 g2=>?_
    obtain⟨hkb2,H2⟩:=H1.name a o2 n2 f2 g2
    iterate 2 (rw[ae,ag];refine⟨by simp[go_sem],?_⟩)
    rw[ae,aC]
    refine⟨_,jr hkb2 (Nat.le_of_ble_eq_true rfl) (by decide),?_⟩
    rw[ae,aj,ep]
    exact hφ _ (y3 hnm e2) _ _ H2
  rw[ae,ai,if_pos (by simp[go_sem];exact e2)]
  rw[ae,aj,ep]
  exact hψ (y4 e1 e2) h H.fit.le
end Go.Proofs.YtgpanefhaiohnaaGreatDoor
namespace Go.Proofs.YtgpanefhaiohnaaGreatDoor
open Go.RowKit
attribute [local go_sem] aZ aY ag ai ak aN au aC aj says_again BE.den IE.den SE.den LE.den AE.den CE.den PE.den VE.den KV.val dw.den dw.cnt iM dU iY allL Ctx.push Ctx.heap Ctx.cut Ctx.bare Ctx.mark Inc.blank List.getD_cons_zero List.getD_cons_succ List.cons_append List.nil_append List.append_nil List.map_cons List.map_nil List.replicate_zero List.replicate_succ aB bQ bu bG bn bY cO aU aT aV bF bD aF aO aH aA ax aS aI bW af and_assoc
def gz:Fm:=(.C 35 [.S 0,.W [32]] (.p (.L 0)) ⟨0,0,0,0,1,0⟩
 (.N (.X (.c 0) (.x 0))
 (.O (.el (.x 0) (.c 0) 1 0) 1 [(.s (.x 1))] ⟨0,0,1,0,0,0⟩
 (.ite (.eqS (.x 1) (.c [105,110]))
 (.N (.and (.le (.cnt (.x 0)) (.cap (.x 0))) (.and (.le (.c 0) (.c 1)) (.le (.c 1) (.cnt (.x 0)))))
 (.C 36 [(.one (.sl (.sub (.x 0) (.c 1) (.cnt (.x 0)) 1)))] (.tup [.L 1,.B 0]) ⟨0,1,0,0,1,0⟩
 (.Z 0
 (.Z 0
 (.Z 0
 (.store (.pt 0 0) [(.sl (.x 1))]
 (.ret (.p (.B 0)))))))))
 (.ite (.eqS (.x 1) (.c [100,114,97,119]))
 (.N (.and (.le (.cnt (.x 0)) (.cap (.x 0))) (.and (.le (.c 0) (.c 1)) (.le (.c 1) (.cnt (.x 0)))))
 (.C 36 [(.one (.sl (.sub (.x 0) (.c 1) (.cnt (.x 0)) 1)))] (.tup [.L 1,.B 0]) ⟨0,1,0,0,1,0⟩
 (.Z 0
 (.Z 0
 (.Z 0
 (.store (.pt 0 1) [(.sl (.x 1))]
 (.ret (.p (.B 0)))))))))
 (.ite (.eqS (.x 1) (.c [101,118,105,99,116]))
 (.N (.and (.le (.cnt (.x 0)) (.cap (.x 0))) (.and (.le (.c 0) (.c 1)) (.le (.c 1) (.cnt (.x 0)))))
 (.C 36 [(.one (.sl (.sub (.x 0) (.c 1) (.cnt (.x 0)) 1)))] (.tup [.L 1,.B 0]) ⟨0,1,0,0,1,0⟩
 (.Z 0
 (.Z 0
 (.Z 0
 (.store (.pt 0 8) [(.sl .nil)]
 (.loop 0 ⟨[(.c 0)],[],[],[],[],[]⟩
 (.ite (.lt (.x 0) (.cnt (.x 1)))
 (.N (.X (.x 0) (.x 1))
 (.O (.el (.x 1) (.x 0) 1 0) 1 [.J 1] ⟨1,0,0,0,0,0⟩
 (.Z 0
 (.Z 0
 (.Z 0
 (.O (.pt 0 8) 1 [(.sl (.x 2))] ⟨0,0,0,0,1,0⟩
 (.mk [.J 1] 3 1
 (.app (.x 2) (.x 3) 1 8 3
 (.Z 0
 (.Z 0
 (.Z 0
 (.store (.pt 0 8) [(.sl (.x 4))]
 (.N (.R (.add (.x 0) (.c 1)))
 (.again 0 ⟨0,1,2,0,2,1⟩ ⟨1,1,2,0,2,1⟩ ⟨[(.add (.x 0) (.c 1))],[],[],[],[],[]⟩))))))))))))))
 (.ret (.p (.B 0)))))))))))
 (.ite (.lt (.cnt (.x 0)) (.c 2))
 (.ret (.p (.one (.b (.c false)))))
 (.N (.X (.c 1) (.x 0))
 (.O (.el (.x 0) (.c 1) 1 0) 1 [(.s (.x 2))] ⟨0,0,1,0,0,0⟩
 (.C 37 [.S 2] (.tup [.J 0,.B 0]) ⟨1,1,0,0,0,0⟩
 (.ite (.not (.x 0))
 (.ret (.p (.one (.b (.c false)))))
 (.ite (.eqI (.cnt (.x 0)) (.c 3))
 (.C 38 [.P 0,.L 0,.J 0] (.p (.B 1)) ⟨0,1,0,0,0,0⟩
 (.ret (.p (.B 1))))
 (.need (.eqI (.cnt (.x 0)) (.c 2)) (.X (.c 0) (.x 0))
 (.load (.eqI (.cnt (.x 0)) (.c 2)) (.el (.x 0) (.c 0) 1 0) 1 [(.s (.x 3))] ⟨0,0,1,0,0,0⟩
 (.call (.eqI (.cnt (.x 0)) (.c 2)) false 39 [.P 0,.S 3,.J 0] (.p (.B 1)) ⟨0,1,0,0,0,0⟩
 (.ret (.p (.one (.b (.and (.eqI (.cnt (.x 0)) (.c 2)) (.x 1)))))))))))))))))))))
theorem EJ:df ⟨true,[]⟩ Tryz.prog (fun l=>([⟨[57],[58,59,60,10,61,62,63,64,65,66,67,68,69,70,71,72,73],[0]⟩]:List dL).getD l ⟨[],[],[]⟩) Tryz.f16=gz:=by kernel_rfl
theorem Jl:aX Tryz.prog .zero Tryz.f16.params.toList=some ([.P 0,.S 0],⟨0,0,1,0,0,1⟩):=by kernel_rfl
section
variable {h0 h k:Hp} {b:Nat} {q:Ss} {x:gu}
theorem Sps.le (H:Sps h0 h b q x) (hl:dm h k):Sps h0 k b q x:=⟨hl _ _ H.blk,H.w.le hl,⟨fun c o hc=>hl _ _ (H.fit.le c o hc),H.fit.apart⟩⟩
theorem Sps.put (H:Sps h0 h b q x) (q':Ss) (y:gu) (ha:q'.a=q.a) (hn:q'.n=q.n) (W:Bi h q' y):Sps h0 (h.set b ⟨bz q' y,ST⟩) b q' y:=by
 refine⟨ax _ _ _,W.but H.blk fun c o hc ho=>by rw[bi _ hc];exact ho,⟨fun c o hc=>?_,fun c hc=>?_⟩⟩
 · rw[bi _ (H.fit.apart c (by rw[hc];simp)).b]
   exact H.fit.le c o hc
 · have A:=H.fit.apart c hc
   exact⟨A.b,by rw[ha];exact A.a,by rw[hn];exact A.n⟩
theorem Sps.add (H:Sps h0 h b q x) {z:Nat} {cs:List Value} {T:TypeId} (hz:h z=some ⟨cs,T⟩) (h1:T≠ST) (h2:T≠JQ) (h3:T≠NT):Sps (h0.set z ⟨cs,T⟩) h b q x:=by
 refine⟨H.blk,H.w,⟨fun c o hc=>?_,fun c hc=>?_⟩⟩
 · by_cases e:c=z
   · subst e;rw[ax] at hc;cases hc;exact hz
   · rw[bi _ e] at hc;exact H.fit.le c o hc
 · by_cases e:c=z
   · subst e
     refine⟨fun e=>?_,fun y hy e=>?_,fun y hy e=>?_⟩
     · rw[e,H.blk] at hz;cases hz;exact h1 rfl
     · obtain⟨c2,h4⟩:=oV H.w.a hy
       rw[e,hz] at h4;cases h4;exact h2 rfl
     · obtain⟨c2,h4⟩:=oV H.w.n hy
       rw[e,hz] at h4;cases h4;exact h3 rfl
   · rw[bi _ e] at hc;exact H.fit.apart c hc
theorem Sps.ev (H:Sps h0 h b q x) (he:∀ z,q.e.a=some z→h0 z.1=none) (a:Int) {s':bg} (o1:bJ k s' (dQ x.evict++dQ [a]) IT' 1) (n1:s'.n=q.e.n+1) (f1:∀ z,s'.a=some z→(∃ y,q.e.a=some y∧y.1=z.1)∨h z.1=none)
 (g1:∀ b o,(∀ x,q.e.a=some x→x.1≠b)→h b=some o→k b=some o):
 k b=some ⟨bz q x,ST⟩∧Sps h0 (k.set b ⟨bz { q with e:=s' } { x with evict:=x.evict++[a] },ST⟩) b { q with e:=s' } { x with evict:=x.evict++[a] }∧∀ z,s'.a=some z→h0 z.1=none:=by
 have hkb:k b=some ⟨bz q x,ST⟩:=g1 b _ (own_ne H.w.e H.blk Iy) H.blk
 have o1':bJ k s' (dQ (x.evict++[a])) IT' 1:=by rw[lg];exact o1
 have hk2:∀ c o,c≠b→k c=some o→(k.set b ⟨bz { q with e:=s' } { x with evict:=x.evict++[a] },ST⟩) c=some o:=fun c o hc ho=>by rw[bi _ hc];exact ho
 have W:=H.w
 have i6_it:I6≠IT':=by decide
 refine⟨hkb,⟨ax _ _ _,⟨?_,W.i',?_,W.d',?_,?_,?_,W.a',?_,W.n',W.l,W.l'⟩,⟨fun c o hc=>?_,fun c hc=>⟨(H.fit.apart c hc).b,(H.fit.apart c hc).a,(H.fit.apart c hc).n⟩⟩⟩,fun z hz=>?_⟩
 · have:=dW W.i W.e i6_it g1
   exact cZ this fun z _ hz hc=>hk2 _ _ (own_ne this hkb qG z hz) hc
 · have:=dW W.d W.e i6_it g1
   exact cZ this fun z _ hz hc=>hk2 _ _ (own_ne this hkb qG z hz) hc
 · exact cZ o1' fun z _ hz hc=>hk2 _ _ (own_ne o1' hkb Iy z hz) hc
 · show s'.n=(x.evict++[a]).length
   rw[n1,W.e'];simp
 · have:=dW W.a W.e (fun e=>Yb e.symm) g1
   exact cZ this fun z _ hz hc=>hk2 _ _ (own_ne this hkb Gm z hz) hc
 · have:=dW W.n W.e (fun e=>Yc e.symm) g1
   exact cZ this fun z _ hz hc=>hk2 _ _ (own_ne this hkb Dv z hz) hc
 · have A:=H.fit.apart c (by rw[hc];simp)
   exact hk2 _ _ A.b (g1 c o (fun y hy e=>by rw[← e,he y hy] at hc;cases hc) (H.fit.le c o hc))
 · rcases f1 z hz with ⟨y,hy,e⟩ | h1
   · rw[← e];exact he y hy
   · cases hq:h0 z.1 with
     | none=>rfl
     | some o=>rw[H.fit.le _ _ hq] at h1;cases h1
end
theorem o9 (c:UInt8) (l:List UInt8):(aW c l).length≤l.length+1∧∀ x∈aW c l,x.length≤l.length:=by
 have h1:=nV c l
 have h2:∀ L:List (List UInt8),L.length≤(dG L).length∧∀ x∈L,x.length+1≤(dG L).length:=by
  intro L
  induction L with
  | nil=>exact⟨Nat.zero_le _,fun x hx=>(by cases hx)⟩
  | cons a L ih=>
    rw[bH]
    refine⟨by rw[List.length_cons];omega,fun x hx=>?_⟩
    rcases List.mem_cons.1 hx with rfl | hx
    · omega
    · have:=ih.2 x hx;omega
 obtain⟨h3,h4⟩:=h2 (aW c l)
 exact⟨by omega,fun x hx=>by have:=h4 x hx;omega⟩
theorem Sps.row {h0 k:Hp} {b:Nat} {q:Ss} {x:gu} (H:Sps h0 k b q x) {s:bg} {ns:List Int} (O:bJ k s (dQ ns) I6 1) (hn:s.n=ns.length) (hf:∀ z,s.a=some z→h0 z.1=none):
 ∃ h2,dm h0 h2∧Sps h2 k b q x∧Row h2 s (dQ ns) ns.length 1:=by
 rcases O with ⟨h1,h2⟩ | ⟨z,⟨cs,T⟩,h1,h2,h3,h4,h5,h6,h7⟩
 · have h0':ns=[]:=by cases ns with | nil=>rfl | cons a l=>cases h2
   subst h0'
   exact⟨h0,fun _ _ h=>h,H,Row.nil _ hn 1⟩
 · simp only at h3;subst h3
   exact⟨h0.set z ⟨cs,I6⟩,dF (hf _ h1) _,H.add h2 qG TJ TL,Row.eu (.inr ⟨z,_,h1,ax _ _ _,rfl,h4,h5,h6,h7⟩) hn⟩
def XZ (h0:Hp) (b:Nat) (x:gu) (l:List UInt8):Nat→Ctx→Prop:=fun _ C=>
 ∃ (i:Nat) (q:Ss) (hh:Hp) (ns:List Int) (ok:Bool) (ss:List UInt8) (s0 s1:bg) (h2:Hp),C=⟨[(i:Int)],[ok],[l,ss],[],[s0,s1],[some (b,0)],hh,dY⟩∧Sps h2 hh b q { x with evict:=ns.take i }∧(∀ z,q.e.a=some z→h2 z.1=none)∧
  i≤ns.length∧ns.length≤200001∧Row h2 s1 (dQ ns) ns.length 1∧dm h0 h2∧(ok=true→gZ gU x l=some { x with evict:=ns })∧(ok=false→gZ gU x l=none)
def SL:Nat→Ctx→Nat:=fun _ C=>(C.l.getD 1 ⟨none,0,0⟩).n - (C.i.getD 0 0).toNat
theorem OZ {nm:List UInt8→Bool} {x:gu} {l w:List UInt8} {r:List (List UInt8)} (hs:aW 32 l=w::r):gZ nm x l=if w=qx then (numsOf r).map fun l=>{ x with ins:=l }
 else if w=eG then (numsOf r).map fun l=>{ x with draws:=l }
 else if w=dP then (numsOf r).map fun l=>{ x with evict:=l }
 else match r with
  | [a]=>if numOf a<0 then none else single x w (numOf a)
  | [a,b]=>if numOf a<0 then none else named nm x w (numOf a) b
  | _=>none:=by
 unfold gZ;rw[hs]
 first | rfl | (rcases r with _ | ⟨a,_ | ⟨b,_ | ⟨c,r⟩⟩⟩<;>rfl)
set_option maxHeartbeats 8000000 in
def BA:Ct Tryz.prog where
 f:=16
 spec:=fun args h φ=>∃ h0 b q x l,args=[.pointer (some ⟨b,0,none⟩),.string (B l)]∧Sps h0 h b q x∧qy h0∧l.length≤200000∧x.acts.length≤500000∧x.names.length≤500000∧doneSpec h0 b (gZ gU x l) φ
 ok:=by
  rintro args h φ w ⟨h0,b,q,x,l,rfl,H,hM,hl,hla,hln,hφ,hψ⟩ hH
  refine dD Tryz.func16 EJ Jl [xk,Bq,GX,GV,GY] φ (XZ h0 b x l) (SL) ⟨[],[],[l],[],[],[some (b,0)],h,dY⟩ ⟨rfl,rfl,rfl,rfl,rfl,rfl⟩ af ?_ w hH rfl
  generalize hE:(⟨aB _,_,_,_⟩:Env)=E
  have s_ctSplit:E.spec 35=(xk).spec:=by rw[← hE];rfl
  have s_ctNumbers:E.spec 36=(Bq).spec:=by rw[← hE];rfl
  have s_ctSSmall:E.spec 37=(GX).spec:=by rw[← hE];rfl
  have s_ctSNamed:E.spec 38=(GV).spec:=by rw[← hE];rfl
  have s_ctSingle:E.spec 39=(GY).spec:=by rw[← hE];rfl
  have ep:E.post=φ:=by rw[← hE]
  have ei:E.inv=(XZ h0 b x l):=by rw[← hE]
  have em:E.meas=(SL):=by rw[← hE]
  clear hE
  unfold gz
  obtain⟨hz1,hz2⟩:=o9 32 l
  rw[ak,if_pos (by rfl),s_ctSplit]
  refine⟨l,32,rfl,hl,hM.le H.fit.le,fun bs hbs=>?_⟩
  obtain⟨wd,r,hL⟩:∃ wd r,aW 32 l=wd::r:=by
   cases hs:aW 32 l with
   | nil=>exact absurd hs (jf _ _)
   | cons a t=>exact⟨a,t,rfl⟩
  have hbs:h bs=none:=hbs
  have hset:=OZ (nm:=gU) (x:=x) hL
  rw[hL] at hz1 hz2⊢
  have hlen:(wd::r).length=r.length+1:=rfl
  have hle0:dm h0 (h0.set bs ⟨bZ (wd::r),NT⟩):=by
   refine dF ?_ _
   cases hq:h0 bs with
   | none=>rfl
   | some o=>rw[H.fit.le _ _ hq] at hbs;cases hbs
  have H1:=H.fresh hbs ⟨bZ (wd::r),NT⟩
  generalize hh0:h0.set bs ⟨bZ (wd::r),NT⟩=h0' at *
  generalize hs0:(⟨some (bs,0),r.length+1,r.length+1⟩:bg)=s0
  have R0:Row h0' s0 (bZ (wd::r)) (r.length+1) 1:=by
   rw[← hs0,← hh0]
   exact⟨.inr ⟨by simp,by rw[aH,if_pos (by simp[jQ])];show some (((bZ (wd::r)).drop 0).take ((r.length+1)*1))=_;rw[List.drop_zero,List.take_of_length_le (by rw[jQ];simp)]⟩,rfl,by rw[jQ];simp⟩
  generalize hh1:h.set bs ⟨bZ (wd::r),NT⟩=h1 at *
  have R1:=R0.le H1.fit.le
  have hsn:s0.n=r.length+1:=R0.cnt
  have hsc:s0.c=r.length+1:=by rw[← hs0]
  have hns:=R0.nns (by omega)
  have Rr:Row h1 ⟨if s0.c=1 then s0.a else s0.a.map fun x=>(x.1,x.2+1*1),r.length,r.length⟩ (bZ r) r.length 1:=by
   have:=R1.sub (by omega) (lo:=1) (hi:=r.length+1) (by omega) (by omega) r.length
   simpa[bZ,List.take_of_length_le] using this
  refine⟨fun h=>(by cases h),(ah _ _).2 ⟨⟨[],[],[],[],[s0],[]⟩,rfl,af,(by rw[← hs0];rfl),?_⟩⟩
  rw[ae,ag];refine⟨by simp[go_sem,hsn,hns]<;>omega,?_⟩
  rw[ae,au,if_pos (by rfl)]
  refine (ah _ _).2 ⟨⟨[],[],[wd],[],[],[]⟩,rfl,af,R1.str (l:=wd::r) (k:=0) rfl,?_⟩
  by_cases e1:wd=qx
  · rw[if_pos e1] at hset
    rw[ae,ai,if_pos (by simp[go_sem];exact e1)]
    rw[ae,ag];refine⟨by simp[go_sem,hsn,hsc]<;>omega,?_⟩
    have fin:∀ (ok:Bool) (ns:List Int) (s':bg) (k:Hp),dm h1 k→(∀ z,s'.a=some z→h1 z.1=none)→bJ k s' (dQ ns) I6 1→s'.n=ns.length→(ok=true→numsOf r=some ns)→(ok=false→numsOf r=none)→
     Then E gz.k.k.k.k.k.k ⟨[],[ok],[l,wd],[],[s0,s'],[some (b,0)],k,dY⟩:=by
     intro ok ns s' k hk hf o1 n1 hy hno
     have H2:=H1.le hk
     have W:=H2.w
     have H3:=H2.put { q with i:=s' } { x with ins:=ns } rfl rfl ⟨o1,n1,W.d,W.d',W.e,W.e',W.a,W.a',W.n,W.n',W.l,W.l'⟩
     dsimp only[gz,Fm.k,Fm.e]
     iterate 3 (rw[ae,ag];refine⟨by simp[go_sem],?_⟩)
     rw[ae,aC]
     refine⟨_,jr H2.blk (Nat.le_of_ble_eq_true rfl) (by decide),?_⟩
     rw[ae,aj,ep]
     cases ok with
     | true=>exact hφ _ (by rw[hset,hy rfl];rfl) _ _ (H3.weak hle0)
     | false=>exact hψ (by rw[hset,hno rfl];rfl) _ (H3.weak hle0).fit.le
    rw[ae,ak,if_pos (by rfl),s_ctNumbers]
    refine⟨_,r,by simp[go_sem,bg.val,hsn,hsc]<;>rfl,Rr,by omega,fun y hy=>by have:=hz2 y (by simp[hy]);omega,fun ns hns s' k hk hf o1 n1=>?_,fun hnone ns s' k hk hf o1 n1 _=>?_⟩
    · exact⟨fun h=>(by cases h),(ah _ _).2 ⟨⟨[],[true],[],[],[s'],[]⟩,rfl,af,rfl,fin true ns s' k hk hf o1 n1 (fun _=>hns) (fun h=>by cases h)⟩⟩
    · exact⟨fun h=>(by cases h),(ah _ _).2 ⟨⟨[],[false],[],[],[s'],[]⟩,rfl,af,rfl,fin false ns s' k hk hf o1 n1 (fun h=>by cases h) (fun _=>hnone)⟩⟩
  rw[if_neg e1] at hset
  rw[ae,ai,if_neg (by simp[go_sem];exact e1)]
  by_cases e2:wd=eG
  · rw[if_pos e2] at hset
    rw[ae,ai,if_pos (by simp[go_sem];exact e2)]
    rw[ae,ag];refine⟨by simp[go_sem,hsn,hsc]<;>omega,?_⟩
    have fin:∀ (ok:Bool) (ns:List Int) (s':bg) (k:Hp),dm h1 k→(∀ z,s'.a=some z→h1 z.1=none)→bJ k s' (dQ ns) I6 1→s'.n=ns.length→(ok=true→numsOf r=some ns)→(ok=false→numsOf r=none)→
     Then E gz.k.k.k.e.k.k.k ⟨[],[ok],[l,wd],[],[s0,s'],[some (b,0)],k,dY⟩:=by
     intro ok ns s' k hk hf o1 n1 hy hno
     have H2:=H1.le hk
     have W:=H2.w
     have H3:=H2.put { q with d:=s' } { x with draws:=ns } rfl rfl ⟨W.i,W.i',o1,n1,W.e,W.e',W.a,W.a',W.n,W.n',W.l,W.l'⟩
     dsimp only[gz,Fm.k,Fm.e]
     iterate 3 (rw[ae,ag];refine⟨by simp[go_sem],?_⟩)
     rw[ae,aC]
     refine⟨_,jr H2.blk (Nat.le_of_ble_eq_true rfl) (by decide),?_⟩
     rw[ae,aj,ep]
     cases ok with
     | true=>exact hφ _ (by rw[hset,hy rfl];rfl) _ _ (H3.weak hle0)
     | false=>exact hψ (by rw[hset,hno rfl];rfl) _ (H3.weak hle0).fit.le
    rw[ae,ak,if_pos (by rfl),s_ctNumbers]
    refine⟨_,r,by simp[go_sem,bg.val,hsn,hsc]<;>rfl,Rr,by omega,fun y hy=>by have:=hz2 y (by simp[hy]);omega,fun ns hns s' k hk hf o1 n1=>?_,fun hnone ns s' k hk hf o1 n1 _=>?_⟩
    · exact⟨fun h=>(by cases h),(ah _ _).2 ⟨⟨[],[true],[],[],[s'],[]⟩,rfl,af,rfl,fin true ns s' k hk hf o1 n1 (fun _=>hns) (fun h=>by cases h)⟩⟩
    · exact⟨fun h=>(by cases h),(ah _ _).2 ⟨⟨[],[false],[],[],[s'],[]⟩,rfl,af,rfl,fin false ns s' k hk hf o1 n1 (fun h=>by cases h) (fun _=>hnone)⟩⟩
  rw[if_neg e2] at hset
  rw[ae,ai,if_neg (by simp[go_sem];exact e2)]
  by_cases e3:wd=dP
  · rw[if_pos e3] at hset
    rw[ae,ai,if_pos (by simp[go_sem];exact e3)]
    rw[ae,ag];refine⟨by simp[go_sem,hsn,hsc]<;>omega,?_⟩
    have fin:∀ (ok:Bool) (ns:List Int) (s':bg) (k:Hp),dm h1 k→(∀ z,s'.a=some z→h1 z.1=none)→bJ k s' (dQ ns) I6 1→s'.n=ns.length→ns.length≤r.length→(ok=true→numsOf r=some ns)→(ok=false→numsOf r=none)→
     Then E gz.k.k.k.e.e.k.k.k ⟨[],[ok],[l,wd],[],[s0,s'],[some (b,0)],k,dY⟩:=by
     intro ok ns s' k hk hf o1 n1 hnl hy hno
     have H2:=H1.le hk
     have W:=H2.w
     have H3:=H2.put { q with e:=iP } { x with evict:=[] } rfl rfl ⟨W.i,W.i',W.d,W.d',fF _ _ _,rfl,W.a,W.a',W.n,W.n',W.l,W.l'⟩
     have o2:bJ (k.set b ⟨bz { q with e:=iP } { x with evict:=[] },ST⟩) s' (dQ ns) I6 1:=cZ o1 fun z _ hz hc=>by rw[bi _ (own_ne o1 H2.blk qG z hz)];exact hc
     obtain⟨h2,hl2,H4,R2⟩:=H3.row o2 n1 fun z hz=>by
      cases hq:h0' z.1 with
      | none=>rfl
      | some o=>have:=hf z hz;rw[H1.fit.le _ _ hq] at this;cases this
     dsimp only[gz,Fm.k,Fm.e]
     iterate 3 (rw[ae,ag];refine⟨by simp[go_sem],?_⟩)
     rw[ae,aC]
     refine⟨_,jr H2.blk (Nat.le_of_ble_eq_true rfl) (by decide),?_⟩
     rw[ae]
     refine aQ ?_ ?_
     · rw[ei]
       exact⟨0,{ q with e:=iP },_,ns,ok,wd,s0,s',h2,rfl,H4,fun z hz=>(by cases hz),Nat.zero_le _,by omega,R2,fun c o hc=>hl2 c o (hle0 c o hc),fun h=>by rw[hset,hy h];rfl,fun h=>by rw[hset,hno h];rfl⟩
     rw[ei,em]
     rintro i' bb ss vv ll pp hh M ⟨i,q1,hh',ns1,ok1,w1,t0,t1,h3,hC,H5,he5,hi5,hl5,R5,hle5,hy5,hno5⟩ hM
     cases hC
     have hM':M 0=t1.n - i:=hM
     have htn:=R5.cnt
     by_cases hlt:i<ns1.length
     · have hx:ns1[i]? = some ns1[i]:=List.getElem?_eq_getElem hlt
       have hns5:=R5.nns (by omega)
       rw[ai,if_pos (by simp[go_sem,htn];omega)]
       rw[ae,ag];refine⟨by simp[go_sem,htn,hns5,hlt],?_⟩
       rw[ae,au,if_pos (by rfl)]
       refine (ah _ _).2 ⟨⟨[ns1[i]],[],[],[],[],[]⟩,rfl,af,by simpa[go_sem] using (R5.le H5.fit.le).int hx,?_⟩
       iterate 3 (rw[ae,ag];refine⟨by simp[go_sem],?_⟩)
       rw[ae,au,if_pos (by rfl)]
       refine (ah _ _).2 ⟨⟨[],[],[],[],[q1.e],[]⟩,rfl,af,lM H5.blk rfl,?_⟩
       rw[ae,di]
       intro b2 hb2
       have hb2:hh b2=none:=hb2
       rw[ae]
       refine dV (h:=hh) (sl:=q1.e) (xs:=dQ (ns1.take i)) (cs:=dQ [ns1[i]]) (b1:=b2) rfl rfl H5.w.e rfl hb2 rfl (kK _) (by have:=H5.w.e';simp at this;omega) (by decide) fun s2 k2 o3 n3 f3 g3=>?_
       obtain⟨hkb,H6,he6⟩:=H5.ev he5 ns1[i] o3 n3 f3 g3
       iterate 3 (rw[ae,ag];refine⟨by simp[go_sem],?_⟩)
       rw[ae,aC]
       refine⟨_,jr hkb (Nat.le_of_ble_eq_true rfl) (by decide),?_⟩
       rw[ae,ag];refine⟨by simp[go_sem];omega,?_⟩
       rw[ae,says_again,ei,em]
       have ht:ns1.take (i+1)=ns1.take i++[ns1[i]]:=by simp
       refine⟨⟨i+1,{ q1 with e:=s2 },_,ns1,ok1,w1,t0,t1,h3,rfl,by rw[ht];exact H6,he6,by omega,hl5,R5,hle5,hy5,hno5⟩,?_⟩
       show t1.n - (((i:Int)+1).toNat)<M 0
       omega
     · have hie:i=ns1.length:=by omega
       subst hie
       rw[ai,if_neg (by simp[go_sem,htn])]
       rw[ae,aj,ep]
       rw[List.take_length] at H5
       cases ok1 with
       | true=>exact hφ _ (hy5 rfl) _ _ (H5.weak hle5)
       | false=>exact hψ (hno5 rfl) _ (H5.weak hle5).fit.le
    rw[ae,ak,if_pos (by rfl),s_ctNumbers]
    refine⟨_,r,by simp[go_sem,bg.val,hsn,hsc]<;>rfl,Rr,by omega,fun y hy=>by have:=hz2 y (by simp[hy]);omega,fun ns hns s' k hk hf o1 n1=>?_,fun hnone ns s' k hk hf o1 n1 hnl=>?_⟩
    · exact⟨fun h=>(by cases h),(ah _ _).2 ⟨⟨[],[true],[],[],[s'],[]⟩,rfl,af,rfl,fin true ns s' k hk hf o1 n1 (by have:=iT hns;omega) (fun _=>hns) (fun h=>by cases h)⟩⟩
    · exact⟨fun h=>(by cases h),(ah _ _).2 ⟨⟨[],[false],[],[],[s'],[]⟩,rfl,af,rfl,fin false ns s' k hk hf o1 n1 hnl (fun h=>by cases h) (fun _=>hnone)⟩⟩
  rw[if_neg e3] at hset
  rw[ae,ai,if_neg (by simp[go_sem];exact e3)]
  have hle1:=(H1.weak hle0).fit.le
  cases r with
  | nil=>
    rw[ae,ai,if_pos (by simp[go_sem,hsn])]
    rw[ae,aj,ep]
    exact hψ hset h1 hle1
  | cons a r2=>
  have hal:=hz2 a (by simp)
  have hr2:(a::r2).length=r2.length+1:=rfl
  rw[ae,ai,if_neg (by simp[go_sem,hsn];omega)]
  rw[ae,ag];refine⟨by simp[go_sem,hsn,hns]<;>omega,?_⟩
  rw[ae,au,if_pos (by rfl)]
  refine (ah _ _).2 ⟨⟨[],[],[a],[],[],[]⟩,rfl,af,R1.str (l:=wd::a::r2) (k:=1) rfl,?_⟩
  rw[ae,ak,if_pos (by rfl),s_ctSSmall]
  refine⟨a,rfl,by omega,fun hp=>?_,fun hn v=>?_⟩
  rotate_left
  · refine⟨fun h=>(by cases h),(ah _ _).2 ⟨⟨[v],[false],[],[],[],[]⟩,rfl,af,rfl,?_⟩⟩
    rw[ae,ai,if_pos (by simp[go_sem])]
    rw[ae,aj,ep]
    refine hψ ?_ h1 hle1
    rw[hset]
    rcases r2 with _ | ⟨c,_ | ⟨d,r3⟩⟩
    · show (if numOf a<0 then _ else _)=_
      rw[if_pos (by omega)]
    · show (if numOf a<0 then _ else _)=_
      rw[if_pos (by omega)]
    · rfl
  refine⟨fun h=>(by cases h),(ah _ _).2 ⟨⟨[numOf a],[true],[],[],[],[]⟩,rfl,af,rfl,?_⟩⟩
  rw[ae,ai,if_neg (by simp[go_sem])]
  rcases r2 with _ | ⟨c,_ | ⟨d,r3⟩⟩
  · have hset:gZ gU x l=if numOf a<0 then none else single x wd (numOf a):=hset
    rw[if_neg (by omega)] at hset
    rw[ae,ai,if_neg (by simp[go_sem,hsn])]
    rw[ae,ag];refine⟨by simp[go_sem,hsn,hns],?_⟩
    rw[ae,au,if_pos (by simp[go_sem,hsn])]
    refine (ah _ _).2 ⟨⟨[],[],[wd],[],[],[]⟩,rfl,af,R1.str (l:=[wd,a]) (k:=0) rfl,?_⟩
    rw[ae,ak,if_pos (by simp[go_sem,hsn]),s_ctSingle]
    refine⟨h0',b,q,x,wd,numOf a,rfl,H1,hla,hln,fun y hy q' k hs=>?_,fun hn k hk=>?_⟩
    · refine⟨fun h=>(by cases h),(ah _ _).2 ⟨⟨[],[true],[],[],[],[]⟩,rfl,af,rfl,?_⟩⟩
      rw[ae,aj,ep]
      have:=hφ y (by rw[hset,hy]) _ _ (hs.weak hle0)
      simpa[go_sem,hsn] using this
    · refine⟨fun h=>(by cases h),(ah _ _).2 ⟨⟨[],[false],[],[],[],[]⟩,rfl,af,rfl,?_⟩⟩
      rw[ae,aj,ep]
      have:=hψ (by rw[hset,hn]) k (fun c o hc=>hk c o (hle0 c o hc))
      simpa[go_sem,hsn] using this
  · have hset:gZ gU x l=if numOf a<0 then none else named gU x wd (numOf a) c:=hset
    rw[if_neg (by omega)] at hset
    rw[ae,ai,if_pos (by simp[go_sem,hsn])]
    rw[ae,ak,if_pos (by rfl),s_ctSNamed]
    refine⟨h0',b,q,x,s0,wd,a,c,numOf a,rfl,H1,R0,hla,hln,fun y hy q' k hs=>?_,fun hn k hk=>?_⟩
    · refine⟨fun h=>(by cases h),(ah _ _).2 ⟨⟨[],[true],[],[],[],[]⟩,rfl,af,rfl,?_⟩⟩
      rw[ae,aj,ep]
      exact hφ y (by rw[hset,hy]) _ _ (hs.weak hle0)
    · refine⟨fun h=>(by cases h),(ah _ _).2 ⟨⟨[],[false],[],[],[],[]⟩,rfl,af,rfl,?_⟩⟩
      rw[ae,aj,ep]
      exact hψ (by rw[hset,hn]) k (fun c o hc=>hk c o (hle0 c o hc))
  · have hset:gZ gU x l=none:=hset
    have h4:¬ (r3.length:Int)+1+1+1+1=2:=by omega
    have h5:¬ (r3.length:Int)+1+1+1+1=3:=by omega
    rw[ae,ai,if_neg (by simp[go_sem,hsn];omega)]
    rw[ae,ag];refine⟨by simp[go_sem,hsn]<;>omega,?_⟩
    rw[ae,au,if_neg (by simp[go_sem,hsn];omega)]
    rw[ae,ak,if_neg (by simp[go_sem,hsn];omega)]
    rw[ae,aj,ep]
    have:=hψ hset h1 hle1
    simpa[go_sem,hsn,h4] using this
end Go.Proofs.YtgpanefhaiohnaaGreatDoor
namespace Go.Proofs.YtgpanefhaiohnaaGreatDoor
open Go.RowKit
theorem CQ (x:List UInt8) (L:List (List UInt8)):(lN x L=-1∧∀ j,j<L.length→L[j]?≠some x)∨∃ i:Nat,i<L.length∧lN x L=i∧L[i]? = some x∧∀ j,j<i→L[j]?≠some x:=by
 have key:∀ n,n≤L.length→(∀ j,j<n→L[j]?≠some x)∨∃ i,i<L.length∧L[i]? = some x∧∀ j,j<i→L[j]?≠some x:=by
  intro n
  induction n with
  | zero=>intro _;exact .inl fun j hj=>by omega
  | succ n ih=>
    intro hn
    rcases ih (by omega) with h | h
    · by_cases hx:L[n]? = some x
      · exact .inr ⟨n,by omega,hx,h⟩
      · refine .inl fun j hj=>?_
        by_cases e:j=n
        · rw[e];exact hx
        · exact h j (by omega)
    · exact .inr h
 rcases key L.length (Nat.le_refl _) with h | ⟨i,h1,h2,h3⟩
 · exact .inl ⟨Ir h,h⟩
 · exact .inr ⟨i,h1,Oq h2 h3,h2,h3⟩
theorem sU {nm:List UInt8→Bool} {x:gu} {i:Nat} {L:List (List UInt8)} {l:List UInt8} (hl:L[i]? = some l) (hne:l≠dE):eY nm x i (L.drop i)=match gZ nm x l with
 | none=>.error (i+1,24)
 | some y=>eY nm y (i+1) (L.drop (i+1)):=by
 have hi:=(List.getElem?_eq_some_iff.1 hl).1
 rw[List.drop_eq_getElem_cons hi,(List.getElem?_eq_some_iff.1 hl).2,eY,if_neg hne]
 cases gZ nm x l<;>rfl
theorem yO {nm:List UInt8→Bool} {x:gu} {i:Nat} {L:List (List UInt8)} (hl:L[i]? = some dE):eY nm x i (L.drop i)=.ok (x,L.drop (i+1)):=by
 have hi:=(List.getElem?_eq_some_iff.1 hl).1
 rw[List.drop_eq_getElem_cons hi,(List.getElem?_eq_some_iff.1 hl).2,eY,if_pos rfl]
theorem vO:∀ (r:List (List UInt8)) (s:List UInt8),(∀ x∈r,x≠fD)→uo s r=none
 | [],_,_=>rfl
 | x::r,s,h=>by
   rw[uo,if_neg (h x (by simp))]
   exact vO r _ fun y hy=>h y (by simp[hy])
theorem O3 {r:List (List UInt8)} {e:Nat} (he:r[e]? = some fD) (hno:∀ j,j<e→r[j]?≠some fD) (s:List UInt8):uo s r=some (s++dG (r.take e),r.drop (e+1)):=by
 have hi:=(List.getElem?_eq_some_iff.1 he).1
 have e1:r=r.take e++fD::r.drop (e+1):=by
  conv=>lhs;rw[← List.take_append_drop e r,List.drop_eq_getElem_cons hi,(List.getElem?_eq_some_iff.1 he).2]
 conv=>lhs;rw[e1]
 refine Au _ _ _ fun x hx e2=>?_
 obtain⟨j,hj,rfl⟩:=List.getElem_of_mem hx
 simp at hj
 refine hno j (by omega) ?_
 rw[List.getElem?_eq_getElem (by omega),← e2]
 simp
def xz:gu:=⟨0,0,0,[],[],0,0,0,[],[],[],[],[]⟩
def qz:Ss:=⟨iP,iP,iP,iP,iP,iP⟩
theorem um (h:Hp):FX h qz xz:=⟨Row.nil h rfl 1,Row.nil h rfl 1,Row.nil h rfl 1,Row.nil h rfl 3,Row.nil h rfl 1,Row.nil h rfl 1⟩
def DD (args:List Value) (h:Hp) (φ:Value→Hp→Prop):Prop:=∃ s,args=[.string (B s)]∧s.length≤190000∧qy h∧
 (∀ n c,oq gU s=.error (n,c)→∀ q k,dm h k→FX k q xz→φ (.tuple #[.agg (bz q xz).toArray,.int .i64 (n:Nat),.int .i64 c]) k)∧
 (∀ x,oq gU s=.ok x→∀ q k,dm h k→FX k q x→φ (.tuple #[.agg (bz q x).toArray,.int .i64 0,.int .i64 0]) k)
theorem DY {nm:List UInt8→Bool} {x y:gu} {l:List UInt8} (h:gZ nm x l=some y):y.acts.length≤x.acts.length+1∧y.names.length≤x.names.length+1∧y.src=x.src∧y.lines=x.lines:=by
 unfold gZ at h
 split at h
 · cases h
 · rename_i w r _
   split at h
   · simp only[Option.map_eq_some_iff] at h
     obtain⟨n,_,rfl⟩:=h
     exact⟨by simp,by simp,rfl,rfl⟩
   · split at h
     · simp only[Option.map_eq_some_iff] at h
       obtain⟨n,_,rfl⟩:=h
       exact⟨by simp,by simp,rfl,rfl⟩
     · split at h
       · simp only[Option.map_eq_some_iff] at h
         obtain⟨n,_,rfl⟩:=h
         exact⟨by simp,by simp,rfl,rfl⟩
       · split at h
         · split at h
           · cases h
           · unfold single at h
             repeat' (split at h)
             all_goals first | (cases h;exact⟨by simp,by simp,rfl,rfl⟩) | cases h
         · split at h
           · cases h
           · unfold named at h
             repeat' (split at h)
             all_goals first | (cases h;exact⟨by simp,by simp,rfl,rfl⟩) | cases h
         · cases h
theorem YL {h:Hp} {b:Nat} {cs:List Value} {T:TypeId} (hb:h b=some ⟨cs,T⟩) {n:Nat} (hn:n=cs.length):hread h (some (b,0)) n=some cs:=by
 rw[dN hb,if_pos (by simp[hn])]
 simp[hn]
theorem ut {C:Ctx} {l:LE} {lo hi:IE} {s:bg} {a b:Nat} (hl:l.den C=s) (ha:lo.den C=(a:Int)) (hb:hi.den C=(b:Int)):
 LE.den C (.sub l lo hi 1)=⟨if s.c=a then s.a else s.a.map fun x=>(x.1,x.2+a*1),b - a,s.c - a⟩:=by
 simp only[LE.den,hl,ha,hb,Int.toNat_natCast]
theorem Row.part {h:Hp} {s:bg} {L:List (List UInt8)} (R:Row h s (bZ L) L.length 1) (hc:s.n≤s.c) {a b:Nat} (h1:a≤b) (h2:b≤L.length):
 Row h ⟨if s.c=a then s.a else s.a.map fun x=>(x.1,x.2+a*1),b - a,s.c - a⟩ (bZ ((L.drop a).take (b - a))) ((L.drop a).take (b - a)).length 1:=by
 have:=R.sub hc h1 h2 (s.c - a)
 have e:((bZ L).drop (a*1)).take ((b - a)*1)=bZ ((L.drop a).take (b - a)):=by simp[bZ]
 have e2:((L.drop a).take (b - a)).length=b - a:=by simp;omega
 rw[e2,← e]
 exact this
theorem dS (l:List (List UInt8)) (x:List UInt8):dG (l++[x])=dG l++(x++[10]):=by
 rw[pY];simp[dG]
section
variable {nm:List UInt8→Bool} {s:List UInt8} {x:gu} {r t:List (List UInt8)} {c:List UInt8}
theorem xy {e:Nat×Int} (h0:¬ 131072<s.length) (h1:eY nm x0 0 (bC s)=.error e):oq nm s=.error e:=by
 unfold oq;rw[if_neg h0,h1]
theorem Jg (h0:¬ 131072<s.length) (h1:eY nm x0 0 (bC s)=.ok (x,r)) (h2:uo [] r=none):oq nm s=.error (0,15):=by
 unfold oq;rw[if_neg h0,h1];dsimp only;rw[h2]
theorem Jf (h0:¬ 131072<s.length) (h1:eY nm x0 0 (bC s)=.ok (x,r)) (h2:uo [] r=some (c,t)) (h3:1000<t.length):oq nm s=.error (0,13):=by
 unfold oq;rw[if_neg h0,h1];dsimp only;rw[h2];dsimp only;rw[if_pos h3]
theorem Uy (h0:¬ 131072<s.length) (h1:eY nm x0 0 (bC s)=.ok (x,r)) (h2:uo [] r=some (c,t)) (h3:¬ 1000<t.length):oq nm s=.ok { x with src:=c,lines:=t }:=by
 unfold oq;rw[if_neg h0,h1];dsimp only;rw[h2];dsimp only;rw[if_neg h3]
theorem yS (s:List UInt8):(bC s).length≤s.length+1∧∀ x∈bC s,x.length≤s.length:=by
 obtain⟨h1,h2⟩:=o9 10 s
 unfold bC
 split
 · exact⟨by rw[List.length_dropLast];omega,fun x hx=>h2 x ((List.dropLast_sublist _).subset hx)⟩
 · exact⟨h1,h2⟩
theorem jl (r:List (List UInt8)) (j:Nat):(dG (r.take j)).length≤(dG r).length:=by
 have:dG r=dG (r.take j)++dG (r.drop j):=by rw[← pY,List.take_append_drop]
 rw[this,List.length_append];omega
theorem sZ (r:List (List UInt8)) (j:Nat):(dG (r.drop j)).length≤(dG r).length:=by
 have:dG r=dG (r.take j)++dG (r.drop j):=by rw[← pY,List.take_append_drop]
 rw[this,List.length_append];omega
end
end Go.Proofs.YtgpanefhaiohnaaGreatDoor
namespace Go.Proofs.YtgpanefhaiohnaaGreatDoor
open Go.RowKit
attribute [local go_sem] aZ aY ag ai ak aN au aC di jZ pq nY aj says_again fG BE.den IE.den SE.den LE.den AE.den CE.den PE.den VE.den KV.val dw.den dw.cnt iM dU iY allL Ctx.push Ctx.heap Ctx.cut Ctx.bare Ctx.mark Inc.blank List.getD_cons_zero List.getD_cons_succ List.cons_append List.nil_append List.append_nil List.map_cons List.map_nil List.replicate_zero List.replicate_succ aB bQ bu bG bn bY cO aU aT aV bF bD aF aO aH aA ax aS aI bW af and_assoc
structure QI (h:Hp) (s:List UInt8) (b:Nat) (i:Nat) (used:Bool) (sl:bg) (acc:List UInt8) (hh:Hp):Prop where
 JR:VP hh b used sl acc
 kept:dm h hh
 nb:h b=none
 fresh:∀ z,sl.a=some z→h z.1=none
 lo:1≤i
 le:i≤s.length
 cnt:acc.length≤i
 all:∃ m,s.length<m+i∧rdA s.length s 1 []=rdA m s i acc
theorem WQ {E:Env} {o:Nat} {g:dw} {k:Fm} {C:Ctx} (h1:E.inv o (C.push (g.den C)).bare)
 (h2:∀ (x:Inc) h M,x.cnt=g.cnt→E.inv o ((C.push x).heap h).bare→M o=E.meas o ((C.push x).heap h).bare→(∀ j,j≠o→M j=C.m j)→k.says E ⟨C.i++x.i,C.b++x.b,C.s++x.s,C.v++x.v,C.l++x.l,C.p++x.p,h,M⟩):(Fm.loop o g k).says E C:=by
 refine⟨h1,(xP _ _).2 fun x hx _ h hi=>?_⟩
 exact h2 x h (fun j=>if j=o then E.meas o ((C.push x).heap h).bare else C.m j) hx hi (by simp) (fun j hj=>by simp[hj])
theorem Gp (s:List UInt8) (i:Nat):0≤bt s i∧bt s i≤255:=by
 unfold bt
 have:=(s.getD i 0).toNat_lt
 omega
theorem QI.next {h:Hp} {s:List UInt8} {b i i':Nat} {used:Bool} {sl:bg} {acc:List UInt8} {hh:Hp} (Q:QI h s b i used sl acc hh) {x:UInt8} {sl':bg} {k:Hp} (h1:VP k b true sl' (acc++[x])) (h2:∀ c o,c≠b→(∀ z,sl.a=some z→z.1≠c)→hh c=some o→k c=some o)
 (h3:∀ z,sl'.a=some z→(∃ y,sl.a=some y∧y.1=z.1)∨hh z.1=none) (hi:i<i') (hl:i'≤s.length) (hs:∀ m,rdA (m+1) s i acc=rdA m s i' (acc++[x])):QI h s b i' true sl' (acc++[x]) k:=by
 refine⟨h1,fun c o hc=>h2 c o (fun e=>by rw[e,Q.nb] at hc;cases hc) (fun z hz e=>by have:=Q.fresh z hz;rw[e,hc] at this;cases this) (Q.kept c o hc),Q.nb,fun z hz=>?_,by have:=Q.lo;omega,hl,by have:=Q.cnt;simp;omega,?_⟩
 · rcases h3 z hz with ⟨y,hy,e⟩ | hn
   · rw[← e];exact Q.fresh y hy
   · cases hq:h z.1 with
     | none=>rfl
     | some o=>rw[Q.kept _ _ hq] at hn;cases hn
 · obtain⟨m,hm,he⟩:=Q.all
   have hle:=Q.le
   obtain⟨m',rfl⟩:∃ m',m=m'+1:=⟨m - 1,by omega⟩
   exact⟨m',by omega,by rw[he,hs]⟩
theorem X8 (b:Int):hx b≤15:=by
 unfold hx;split
 · omega
 · split
   · omega
   · split<;>omega
theorem ZQ {v:Value} (h:v.oneCell'=true):dZ [v]:=fun u hu=>by simp at hu;subst hu;exact h
end Go.Proofs.YtgpanefhaiohnaaGreatDoor
namespace Go.Proofs.YtgpanefhaiohnaaGreatDoor
open Go.RowKit
attribute [local go_sem] aZ aY ag ai ak aN au aC aj says_again BE.den IE.den SE.den LE.den AE.den CE.den PE.den VE.den KV.val dw.den dw.cnt iM dU iY allL Ctx.push Ctx.heap Ctx.cut Ctx.bare Ctx.mark Inc.blank List.getD_cons_zero List.getD_cons_succ List.cons_append List.nil_append List.append_nil List.map_cons List.map_nil List.replicate_zero List.replicate_succ aB bQ bu bG bn bY cO aU aT aV bF bD aF aO aH aA ax aS aI bW af and_assoc
def BZ:Fm:=(.ite (.and (.le (.c 48) (.x 0)) (.le (.x 0) (.c 57)))
 (.N (.R (.sub (.wr .i64 (.x 0)) (.c 48)))
 (.ret (.p (.I (.sub (.wr .i64 (.x 0)) (.c 48))))))
 (.ite (.and (.le (.c 97) (.x 0)) (.le (.x 0) (.c 102)))
 (.N (.R (.sub (.wr .i64 (.x 0)) (.c 87)))
 (.ret (.p (.I (.sub (.wr .i64 (.x 0)) (.c 87))))))
 (.ite (.and (.le (.c 65) (.x 0)) (.le (.x 0) (.c 70)))
 (.N (.R (.sub (.wr .i64 (.x 0)) (.c 55)))
 (.ret (.p (.I (.sub (.wr .i64 (.x 0)) (.c 55))))))
 (.ret (.p (.I (.c (-1))))))))
theorem KT:df ⟨true,[]⟩ Tryz.prog (fun l=>([]:List dL).getD l ⟨[],[],[]⟩) Tryz.f167=BZ:=by kernel_rfl
theorem QH:aX Tryz.prog .zero Tryz.f167.params.toList=some ([(.one (.U 0))],⟨1,0,0,0,0,0⟩):=by kernel_rfl
def Hy:Fm:=(.need (.not (.eqI (.len (.x 0)) (.c 0))) (.and (.le (.c 0) (.c 0)) (.lt (.c 0) (.len (.x 0))))
 (.ite (.or (.eqI (.len (.x 0)) (.c 0)) (.not (.eqI (.at (.x 0) (.c 0)) (.c 34))))
 (.ret (.tup [.W [],(.I (.c 0)),(.one (.b (.c false)))]))
 (.mk [] 5 0
 (.loop 0 ⟨[(.c 0),(.c 1)],[(.c false)],[(.c [])],[],[(.x 0)],[]⟩
 (.ite (.lt (.x 1) (.len (.x 0)))
 (.N (.and (.le (.c 0) (.x 1)) (.lt (.x 1) (.len (.x 0))))
 (.ite (.or (.lt (.at (.x 0) (.x 1)) (.c 32)) (.lt (.c 126) (.at (.x 0) (.x 1))))
 (.ret (.tup [.W [],.J 1,(.one (.b (.c false)))]))
 (.ite (.eqI (.at (.x 0) (.x 1)) (.c 34))
 (.str (.x 1)
 (.N (.R (.add (.x 1) (.c 1)))
 (.ret (.tup [.S 2,(.I (.add (.x 1) (.c 1))),(.one (.b (.c true)))]))))
 (.ite (.not (.eqI (.at (.x 0) (.x 1)) (.c 92)))
 (.mk [(.i .u8 (.at (.x 0) (.x 1)))] 5 1
 (.app (.x 1) (.x 2) 1 1 5
 (.N (.R (.add (.x 1) (.c 1)))
 (.again 0 ⟨0,0,1,0,1,0⟩ ⟨2,1,2,0,2,0⟩ ⟨[(.x 0),(.add (.x 1) (.c 1))],[(.x 0)],[(.x 1)],[],[(.x 3)],[]⟩))))
 (.N (.R (.add (.x 1) (.c 1)))
 (.ite (.le (.len (.x 0)) (.add (.x 1) (.c 1)))
 (.ret (.tup [.W [],(.I (.add (.x 1) (.c 1))),(.one (.b (.c false)))]))
 (.N (.and (.le (.c 0) (.add (.x 1) (.c 1))) (.lt (.add (.x 1) (.c 1)) (.len (.x 0))))
 (.ite (.eqI (.at (.x 0) (.add (.x 1) (.c 1))) (.c 34))
 (.ite (.eqI (.at (.x 0) (.add (.x 1) (.c 1))) (.c 34))
 (.N (.and (.le (.c 0) (.add (.x 1) (.c 1))) (.lt (.add (.x 1) (.c 1)) (.len (.x 0))))
 (.mk [(.i .u8 (.at (.x 0) (.add (.x 1) (.c 1))))] 5 1
 (.app (.x 1) (.x 2) 1 1 5
 (.N (.R (.add (.add (.x 1) (.c 1)) (.c 1)))
 (.again 0 ⟨0,0,1,0,1,0⟩ ⟨2,1,2,0,2,0⟩ ⟨[(.x 0),(.add (.add (.x 1) (.c 1)) (.c 1))],[(.x 0)],[(.x 1)],[],[(.x 3)],[]⟩)))))
 (.ite (.eqI (.at (.x 0) (.add (.x 1) (.c 1))) (.c 110))
 (.mk [(.i .u8 (.c 10))] 5 1
 (.app (.x 1) (.x 2) 1 1 5
 (.N (.R (.add (.add (.x 1) (.c 1)) (.c 1)))
 (.again 0 ⟨0,0,1,0,1,0⟩ ⟨2,1,2,0,2,0⟩ ⟨[(.x 0),(.add (.add (.x 1) (.c 1)) (.c 1))],[(.x 0)],[(.x 1)],[],[(.x 3)],[]⟩))))
 (.ite (.eqI (.at (.x 0) (.add (.x 1) (.c 1))) (.c 116))
 (.mk [(.i .u8 (.c 9))] 5 1
 (.app (.x 1) (.x 2) 1 1 5
 (.N (.R (.add (.add (.x 1) (.c 1)) (.c 1)))
 (.again 0 ⟨0,0,1,0,1,0⟩ ⟨2,1,2,0,2,0⟩ ⟨[(.x 0),(.add (.add (.x 1) (.c 1)) (.c 1))],[(.x 0)],[(.x 1)],[],[(.x 3)],[]⟩))))
 (.ite (.eqI (.at (.x 0) (.add (.x 1) (.c 1))) (.c 120))
 (.loop 1 ⟨[(.x 0),(.c 1)],[(.x 0)],[(.x 1)],[],[],[]⟩
 (.ite (.le (.x 3) (.c 2))
 (.N (.R (.add (.add (.x 1) (.c 1)) (.x 3)))
 (.need (.not (.le (.len (.x 0)) (.add (.add (.x 1) (.c 1)) (.x 3)))) (.R (.add (.add (.x 1) (.c 1)) (.x 3)))
 (.need (.not (.le (.len (.x 0)) (.add (.add (.x 1) (.c 1)) (.x 3)))) (.and (.le (.c 0) (.add (.add (.x 1) (.c 1)) (.x 3))) (.lt (.add (.add (.x 1) (.c 1)) (.x 3)) (.len (.x 0))))
 (.call (.not (.le (.len (.x 0)) (.add (.add (.x 1) (.c 1)) (.x 3)))) false 167 [(.one (.i .u8 (.at (.x 0) (.add (.add (.x 1) (.c 1)) (.x 3)))))] (.p (.J 4)) ⟨1,0,0,0,0,0⟩
 (.ite (.or (.le (.len (.x 0)) (.add (.add (.x 1) (.c 1)) (.x 3))) (.lt (.x 4) (.c 0)))
 (.N (.R (.add (.add (.x 1) (.c 1)) (.x 3)))
 (.ret (.tup [.W [],(.I (.add (.add (.x 1) (.c 1)) (.x 3))),(.one (.b (.c false)))])))
 (.N (.R (.add (.x 3) (.c 1)))
 (.again 1 ⟨2,1,2,0,2,0⟩ ⟨4,2,3,0,2,0⟩ ⟨[(.x 2),(.add (.x 3) (.c 1))],[(.x 1)],[(.x 2)],[],[],[]⟩)))))))
 (.N (.R (.add (.add (.x 1) (.c 1)) (.c 1)))
 (.N (.and (.le (.c 0) (.add (.add (.x 1) (.c 1)) (.c 1))) (.lt (.add (.add (.x 1) (.c 1)) (.c 1)) (.len (.x 0))))
 (.N (.R (.add (.add (.x 1) (.c 1)) (.c 2)))
 (.N (.and (.le (.c 0) (.add (.add (.x 1) (.c 1)) (.c 2))) (.lt (.add (.add (.x 1) (.c 1)) (.c 2)) (.len (.x 0))))
 (.C 167 [(.one (.i .u8 (.at (.x 0) (.add (.add (.x 1) (.c 1)) (.c 1)))))] (.p (.J 4)) ⟨1,0,0,0,0,0⟩
 (.N (.R (.mul (.x 4) (.c 16)))
 (.C 167 [(.one (.i .u8 (.at (.x 0) (.add (.add (.x 1) (.c 1)) (.c 2)))))] (.p (.J 5)) ⟨1,0,0,0,0,0⟩
 (.N (.R (.add (.mul (.x 4) (.c 16)) (.x 5)))
 (.mk [(.i .u8 (.wr .u8 (.add (.mul (.x 4) (.c 16)) (.x 5))))] 5 1
 (.app (.x 1) (.x 2) 1 1 5
 (.N (.R (.add (.add (.x 1) (.c 1)) (.c 2)))
 (.N (.R (.add (.add (.add (.x 1) (.c 1)) (.c 2)) (.c 1)))
 (.again 0 ⟨0,0,1,0,1,0⟩ ⟨2,1,2,0,2,0⟩ ⟨[(.x 2),(.add (.add (.add (.x 1) (.c 1)) (.c 2)) (.c 1))],[(.x 1)],[(.x 2)],[],[(.x 3)],[]⟩)))))))))))))))
 (.ret (.tup [.W [],(.I (.add (.x 1) (.c 1))),(.one (.b (.c false)))]))))))
 (.ite (.eqI (.at (.x 0) (.add (.x 1) (.c 1))) (.c 92))
 (.N (.and (.le (.c 0) (.add (.x 1) (.c 1))) (.lt (.add (.x 1) (.c 1)) (.len (.x 0))))
 (.mk [(.i .u8 (.at (.x 0) (.add (.x 1) (.c 1))))] 5 1
 (.app (.x 1) (.x 2) 1 1 5
 (.N (.R (.add (.add (.x 1) (.c 1)) (.c 1)))
 (.again 0 ⟨0,0,1,0,1,0⟩ ⟨2,1,2,0,2,0⟩ ⟨[(.x 0),(.add (.add (.x 1) (.c 1)) (.c 1))],[(.x 0)],[(.x 1)],[],[(.x 3)],[]⟩)))))
 (.ite (.eqI (.at (.x 0) (.add (.x 1) (.c 1))) (.c 110))
 (.mk [(.i .u8 (.c 10))] 5 1
 (.app (.x 1) (.x 2) 1 1 5
 (.N (.R (.add (.add (.x 1) (.c 1)) (.c 1)))
 (.again 0 ⟨0,0,1,0,1,0⟩ ⟨2,1,2,0,2,0⟩ ⟨[(.x 0),(.add (.add (.x 1) (.c 1)) (.c 1))],[(.x 0)],[(.x 1)],[],[(.x 3)],[]⟩))))
 (.ite (.eqI (.at (.x 0) (.add (.x 1) (.c 1))) (.c 116))
 (.mk [(.i .u8 (.c 9))] 5 1
 (.app (.x 1) (.x 2) 1 1 5
 (.N (.R (.add (.add (.x 1) (.c 1)) (.c 1)))
 (.again 0 ⟨0,0,1,0,1,0⟩ ⟨2,1,2,0,2,0⟩ ⟨[(.x 0),(.add (.add (.x 1) (.c 1)) (.c 1))],[(.x 0)],[(.x 1)],[],[(.x 3)],[]⟩))))
 (.ite (.eqI (.at (.x 0) (.add (.x 1) (.c 1))) (.c 120))
 (.loop 1 ⟨[(.x 0),(.c 1)],[(.x 0)],[(.x 1)],[],[],[]⟩
 (.ite (.le (.x 3) (.c 2))
 (.N (.R (.add (.add (.x 1) (.c 1)) (.x 3)))
 (.need (.not (.le (.len (.x 0)) (.add (.add (.x 1) (.c 1)) (.x 3)))) (.R (.add (.add (.x 1) (.c 1)) (.x 3)))
 (.need (.not (.le (.len (.x 0)) (.add (.add (.x 1) (.c 1)) (.x 3)))) (.and (.le (.c 0) (.add (.add (.x 1) (.c 1)) (.x 3))) (.lt (.add (.add (.x 1) (.c 1)) (.x 3)) (.len (.x 0))))
 (.call (.not (.le (.len (.x 0)) (.add (.add (.x 1) (.c 1)) (.x 3)))) false 167 [(.one (.i .u8 (.at (.x 0) (.add (.add (.x 1) (.c 1)) (.x 3)))))] (.p (.J 4)) ⟨1,0,0,0,0,0⟩
 (.ite (.or (.le (.len (.x 0)) (.add (.add (.x 1) (.c 1)) (.x 3))) (.lt (.x 4) (.c 0)))
 (.N (.R (.add (.add (.x 1) (.c 1)) (.x 3)))
 (.ret (.tup [.W [],(.I (.add (.add (.x 1) (.c 1)) (.x 3))),(.one (.b (.c false)))])))
 (.N (.R (.add (.x 3) (.c 1)))
 (.again 1 ⟨2,1,2,0,2,0⟩ ⟨4,2,3,0,2,0⟩ ⟨[(.x 2),(.add (.x 3) (.c 1))],[(.x 1)],[(.x 2)],[],[],[]⟩)))))))
 (.N (.R (.add (.add (.x 1) (.c 1)) (.c 1)))
 (.N (.and (.le (.c 0) (.add (.add (.x 1) (.c 1)) (.c 1))) (.lt (.add (.add (.x 1) (.c 1)) (.c 1)) (.len (.x 0))))
 (.N (.R (.add (.add (.x 1) (.c 1)) (.c 2)))
 (.N (.and (.le (.c 0) (.add (.add (.x 1) (.c 1)) (.c 2))) (.lt (.add (.add (.x 1) (.c 1)) (.c 2)) (.len (.x 0))))
 (.C 167 [(.one (.i .u8 (.at (.x 0) (.add (.add (.x 1) (.c 1)) (.c 1)))))] (.p (.J 4)) ⟨1,0,0,0,0,0⟩
 (.N (.R (.mul (.x 4) (.c 16)))
 (.C 167 [(.one (.i .u8 (.at (.x 0) (.add (.add (.x 1) (.c 1)) (.c 2)))))] (.p (.J 5)) ⟨1,0,0,0,0,0⟩
 (.N (.R (.add (.mul (.x 4) (.c 16)) (.x 5)))
 (.mk [(.i .u8 (.wr .u8 (.add (.mul (.x 4) (.c 16)) (.x 5))))] 5 1
 (.app (.x 1) (.x 2) 1 1 5
 (.N (.R (.add (.add (.x 1) (.c 1)) (.c 2)))
 (.N (.R (.add (.add (.add (.x 1) (.c 1)) (.c 2)) (.c 1)))
 (.again 0 ⟨0,0,1,0,1,0⟩ ⟨2,1,2,0,2,0⟩ ⟨[(.x 2),(.add (.add (.add (.x 1) (.c 1)) (.c 2)) (.c 1))],[(.x 1)],[(.x 2)],[],[(.x 3)],[]⟩)))))))))))))))
 (.ret (.tup [.W [],(.I (.add (.x 1) (.c 1))),(.one (.b (.c false)))]))))))))))))))
 (.ret (.tup [.W [],(.I (.len (.x 0))),(.one (.b (.c false)))])))))))
theorem P6:df ⟨true,[]⟩ Tryz.prog (fun l=>([⟨[2,3,4,5,6],[18,19,20,21,24,25,26,7,27,28,29,30,31,32,33,34,35,36,37,38,39,40,41,42,43,44,45,46,47,48,49,50,51,52,53,54,55,58,57,59,60,61,62,63,64,65,67,66,68,69,70,72,71,73,74,75,77,76,8,78,79,82,83,84,85,86,87,88,89,90,91,92,93,94,95,96,97,98,99,80,81,100,101,102,103,104,105,106,107,108,109,110,111,112,113,114,115,116,117,56,22,23],[]⟩,⟨[2,3,4,8],[78,79,82,83,84,85,86,87,88,89,90,91,92,93,94,95,96,97,98,99,80,81],[]⟩]:List dL).getD l ⟨[],[],[]⟩) Tryz.f105=Hy:=by kernel_rfl
theorem UC:aX Tryz.prog .zero Tryz.f105.params.toList=some ([.S 0],⟨0,0,1,0,0,0⟩):=by kernel_rfl
set_option maxHeartbeats 1000000 in
def oD:Ct Tryz.prog where
 f:=167
 spec:=fun args h φ=>∃ c:Int,args=[.int .u8 c]∧0≤c∧c≤255∧φ (.int .i64 (hx c)) h
 ok:=by
  rintro args h φ w ⟨c,rfl,c0,c1,hφ⟩ hH
  refine dD Tryz.func167 KT QH [] φ ig eX ⟨[c],[],[],[],[],[],h,dY⟩ ⟨rfl,rfl,rfl,rfl,rfl,rfl⟩ af ?_ w hH rfl
  have hw:IntKind.i64.wrap c=c:=by rw[IntKind.wrap_i64];omega
  unfold hx at hφ
  rw[← ae];unfold BZ
  by_cases h1:48≤c∧c≤57
  · rw[if_pos h1] at hφ
    iterate 4 (try simp only[ae];try simp[go_sem,h1.1,h1.2,hw])
    exact⟨by omega,by omega,hφ⟩
  · rw[if_neg h1] at hφ
    by_cases h2:97≤c∧c≤102
    · rw[if_pos h2] at hφ
      have h1':48≤c→¬ c≤57:=by omega
      iterate 5 (try simp only[ae];try simp[go_sem,h2.1,h2.2,hw])
      rw[if_neg h1]
      exact⟨by omega,by omega,hφ⟩
    · rw[if_neg h2] at hφ
      by_cases h3:65≤c∧c≤70
      · rw[if_pos h3] at hφ
        iterate 6 (try simp only[ae];try simp[go_sem,h3.1,h3.2,hw])
        rw[if_neg h1,if_neg h2]
        exact⟨by omega,by omega,hφ⟩
      · rw[if_neg h3] at hφ
        iterate 6 (try simp only[ae];try simp[go_sem,hw])
        rw[if_neg h1,if_neg h2,if_neg h3]
        exact hφ
structure BI (h:Hp) (sl:bg) (acc:List UInt8) (hh:Hp):Prop where
 own:bJ hh sl (AY acc) 5 1
 n:sl.n=acc.length
 nn:sl.a≠none
 fresh:∀ z,sl.a=some z→h z.1=none
 kept:dm h hh
theorem uG {E:Env} {C:Ctx} {x y:LE} {f:Fm} {h:Hp} {sl:bg} {acc:List UInt8} {hh:Hp} (I:BI h sl acc hh) (hlen:acc.length≤1000000) {b:Nat} (hb:hh b=none) {c:Int} (c0:0≤c) (c1:c≤255)
 (hx:x.den C=sl) (hy:y.den C=⟨some (b,0),1,1⟩) (hC:C.h=hh.set b ⟨[.int .u8 c],5⟩)
 (hk:∀ s' k',BI h s' (acc++[ub c]) k'→f.says E ((C.push ⟨[],[],[],[],[s'],[]⟩).heap k')):
 (Fm.app x y 1 1 5 f).says E C:=by
 have h1:=I.n
 have hcs:[Value.int .u8 c]=AY [ub c]:=by simp[AY,XF c0 c1]
 have hlt:∀ z,sl.a=some z→z.1≠b:=fun z hz e=>by
  rcases I.own with ⟨q,_⟩ | ⟨d,o,q1,q2,_⟩
  · rw[q] at hz;cases hz
  · rw[q1] at hz;cases hz;subst e;rw[hb] at q2;cases q2
 rw[fG,hx,hy,hC]
 refine⟨AY acc,AY [ub c],Fq I.own hlt _,.inr ⟨by simp,?_⟩,?_,?_,?_,?_⟩
 · rw[← hcs,aH,if_pos (by simp)];rfl
 · rw[← hcs];exact ZQ rfl
 · show sl.n+1≤maxLen;unfold maxLen;omega
 · show (sl.n+1)*1≤_;omega
 · intro s' k' g1 g2 g3 g4
   refine hk s' k' ⟨by rw[VT];exact g1,by rw[show s'.n=sl.n+1 from g2,h1];simp,?_,fun z hz=>?_,fun d o hd=>?_⟩
   · rcases g1 with ⟨q,_⟩ | ⟨d,o,q1,_⟩
     · rw[q] at g2
       have:(0:Nat)=sl.n+1:=g2
       omega
     · rw[q1];simp
   · rcases g3 z hz with ⟨y',hy',e⟩ | hn
     · rw[← e];exact I.fresh y' hy'
     · have m1:z.1≠b:=fun e=>by rw[e,ax] at hn;cases hn
       rw[bi _ m1] at hn
       cases hq:h z.1 with
       | none=>rfl
       | some o=>rw[I.kept _ _ hq] at hn;cases hn
   · refine g4 d o (fun z hz e=>by have:=I.fresh z hz;rw[e,hd] at this;cases this) ?_
     rw[bi _ (fun e=>by have:=I.kept d o hd;rw[e,hb] at this;cases this)]
     exact I.kept d o hd
theorem BI.bytes {h:Hp} {sl:bg} {acc:List UInt8} {hh:Hp} (I:BI h sl acc hh):BytesAt hh sl acc:=by
 rcases I.own with ⟨q,_⟩ | ⟨d,o,q1,q2,_,q4,q5,_,q7⟩
 · exact absurd (by rw[q]) I.nn
 · refine .inr ?_
   rw[q1,dN q2,if_pos (by omega)]
   have:AY acc=acc.map fun c=>Value.int .u8 c.toNat:=rfl
   rw[← this,q7,Nat.mul_one];rfl
end Go.Proofs.YtgpanefhaiohnaaGreatDoor
namespace Go.Proofs.YtgpanefhaiohnaaGreatDoor
open Go.RowKit
attribute [local go_sem] aZ aY ag ai ak aN au aC aj says_again BE.den IE.den SE.den LE.den AE.den CE.den PE.den VE.den KV.val dw.den dw.cnt iM dU iY allL Ctx.push Ctx.heap Ctx.cut Ctx.bare Ctx.mark Inc.blank List.getD_cons_zero List.getD_cons_succ List.cons_append List.nil_append List.append_nil List.map_cons List.map_nil List.replicate_zero List.replicate_succ aB bQ bu bG bn bY cO aU aT aV bF bD aF aO aH aA ax aS aI bW af and_assoc
def ZW (h:Hp) (s:List UInt8):Nat→Ctx→Prop
 | 0,C=>∃ x0 i y t l0 sl acc hh,C=⟨[x0,(i:Nat)],[y],[s,t],[],[l0,sl],[],hh,dY⟩∧BI h sl acc hh∧1≤i∧i≤s.length∧acc.length≤i∧∃ m,s.length<m+i∧rdA s.length s 1 []=rdA m s i acc
 | _+1,C=>∃ x0 i x2 k y y' t t' l0 sl acc hh,C=⟨[x0,(i:Nat),x2,(k:Nat)],[y,y'],[s,t,t'],[],[l0,sl],[],hh,dY⟩∧BI h sl acc hh∧1≤i∧i+1<s.length∧acc.length≤i∧(∃ m,s.length<m+i∧rdA s.length s 1 []=rdA m s i acc)∧
  1≤k∧k≤3∧(2≤k→i+2<s.length∧0≤hx (bt s (i+2)))∧(3≤k→i+3<s.length∧0≤hx (bt s (i+3)))
def uh (s:List UInt8):Nat→Ctx→Nat
 | 0,C=>((s.length:Int) - C.i.getD 1 0).toNat
 | _+1,C=>(3 - C.i.getD 3 0).toNat
theorem qj {s acc:List UInt8} {i:Nat} (h:∃ m,s.length<m+i∧rdA s.length s 1 []=rdA m s i acc) (hi:i≤s.length) {r:Option (List UInt8×Nat)} (hs:∀ m,rdA (m+1) s i acc=r):rdA s.length s 1 []=r:=by
 obtain⟨m,hm,he⟩:=h
 obtain⟨m',rfl⟩:∃ m',m=m'+1:=⟨m - 1,by omega⟩
 rw[he,hs]
theorem qi {s acc acc':List UInt8} {i i':Nat} (h:∃ m,s.length<m+i∧rdA s.length s 1 []=rdA m s i acc) (hi:i≤s.length) (hlt:i<i') (hs:∀ m,rdA (m+1) s i acc=rdA m s i' acc'):∃ m,s.length<m+i'∧rdA s.length s 1 []=rdA m s i' acc':=by
 obtain⟨m,hm,he⟩:=h
 obtain⟨m',rfl⟩:∃ m',m=m'+1:=⟨m - 1,by omega⟩
 exact⟨m',by omega,by rw[he,hs]⟩
set_option maxRecDepth 100000 in
set_option maxHeartbeats 8000000 in
def NM:Ct Tryz.prog where
 f:=105
 spec:=fun args h φ=>∃ s,args=[.string (B s)]∧s.length≤100000∧
  (match Y9 s with
   | some (t,e)=>φ (.tuple #[.string (B t),.int .i64 (e:Nat),.bool true]) h
   | none=>∀ t n,φ (.tuple #[.string (B t),.int .i64 n,.bool false]) h)
 ok:=by
  rintro args h φ w ⟨s,rfl,hlen,hφ⟩ hH
  refine fA (dD Tryz.func105 P6 UC [oD] (fun v k=>∃ k',dm k' k∧φ v k') (ZW h s) (uh s) ⟨[],[],[s],[],[],[],h,dY⟩ ⟨rfl,rfl,rfl,rfl,rfl,rfl⟩ af ?_ w hH rfl)
  generalize hE:(⟨aB _,_,_,_⟩:Env)=E
  have s1:E.spec 167=oD.spec:=by rw[← hE];rfl
  have ep:E.post=fun v k=>∃ k',dm k' k∧φ v k':=by rw[← hE]
  have ei:E.inv=ZW h s:=by rw[← hE]
  have em:E.meas=uh s:=by rw[← hE]
  clear hE
  unfold Y9 at hφ
  have no:∀ {hh},dm h hh→rdA s.length s 1 []=none→∀ t n,∃ k',dm k' hh∧φ (.tuple #[.string (B t),.int .i64 n,.bool false]) k':=fun hle hr t n=>by
   refine⟨h,hle,?_⟩
   rw[hr] at hφ
   split at hφ
   · rename_i heq;split at heq<;>cases heq
   · exact hφ t n
  rw[← ae];unfold Hy
  by_cases hs0:s=[]
  · subst hs0
    rw[if_pos (.inl rfl)] at hφ
    iterate 3 (try simp only[ae];try simp[go_sem,ep])
    exact⟨h,fun _ _ h=>h,hφ _ _⟩
  have hpos:0<s.length:=List.length_pos_iff.2 hs0
  have hposz:(0:Int)<s.length:=by omega
  have hnz:¬ (s.length:Int)=0:=by omega
  by_cases h34:bt s 0=34
  · rw[if_neg (by omega)] at hφ
    iterate 3 (try simp only[ae];try simp[go_sem,hs0,h34])
    refine⟨hpos,?_⟩
    rw[di]
    intro b0 hb0
    refine aQ ?_ ?_
    · rw[ei]
      exact⟨0,1,false,[],⟨some (b0,0),0,0⟩,⟨some (b0,0),0,0⟩,[],h.set b0 ⟨[],5⟩,rfl,⟨.inr ⟨b0,⟨[],5⟩,rfl,ax _ _ _,rfl,rfl,Nat.le_refl _,Nat.zero_le _,rfl⟩,rfl,by simp,fun z hz=>by cases hz;exact hb0,dF hb0 _⟩,Nat.le_refl _,hpos,Nat.zero_le _,s.length,by omega,rfl⟩
    · rw[ei,em]
      rintro i' bb ss v ll pp hh0 M ⟨x0,i,y,t,l0,sl,acc,hh,hC,X,lo,le,cnt,all⟩ hM
      cases hC
      have hM':M 0=((s.length:Int) - i).toNat:=hM
      clear hM hb0
      have hibd:=Gp s i
      rw[← ae]
      by_cases hil:i=s.length
      · have hz:¬ (i:Int)<s.length:=by omega
        iterate 2 (try simp only[ae];try simp[go_sem,ep,hz])
        exact no X.kept (qj all le fun m=>by rw[rdA,if_pos (.inl (by omega))]) _ _
      have hlt:i<s.length:=by omega
      have hz:(i:Int)<s.length:=by omega
      by_cases hpr:bt s i<32∨126<bt s i
      · iterate 4 (try simp only[ae];try simp[go_sem,ep,hz,hpr])
        exact no X.kept (qj all le fun m=>by rw[rdA,if_pos (.inr hpr)]) _ _
      have p1:¬ bt s i<32:=by omega
      have p2:¬ 126<bt s i:=by omega
      by_cases q34:bt s i=34
      · iterate 4 (try simp only[ae];try simp[go_sem,hz,q34])
        have hr:rdA s.length s 1 []=some (acc,i+1):=qj all le fun m=>by rw[rdA,if_neg (by omega),if_pos q34]
        rw[hr] at hφ
        rw[ae,nY]
        refine⟨acc,X.bytes,?_⟩
        iterate 2 (try simp only[ae];try simp[go_sem,ep])
        exact⟨by omega,by omega,h,X.kept,by simpa using hφ⟩
      by_cases q92:bt s i=92
      · have e1:((i:Int)+1).toNat=i+1:=by omega
        have hibd1:=Gp s (i+1)
        by_cases hi1:i+1=s.length
        · have hz1:(s.length:Int)≤(i:Int)+1:=by omega
          iterate 10 (try simp only[ae];try simp[go_sem,ep,hz,q92,hz1])
          exact⟨by omega,by omega,no X.kept (qj all le fun m=>by rw[rdA,if_neg (by omega),if_neg q34,if_neg (fun h=>h q92),if_pos (by omega)]) _ _⟩
        have hz3:(i:Int)+1<s.length:=by omega
        have hz4:¬ (s.length:Int)≤(i:Int)+1:=by omega
        by_cases c34:bt s (i+1)=34
        · iterate 16 (try simp only[ae];try simp[go_sem,hz,hz3,hz4,q92,e1,c34])
          refine⟨by omega,by omega,by omega,?_⟩
          rw[di]
          intro b hb
          refine uG X (by omega) hb (c:=34) (by omega) (by omega) rfl rfl (by simp[go_sem,e1,c34]) (fun s' k' X'=>?_)
          rw[← ae]
          iterate 2 (try simp only[ae];try simp[go_sem,ei,em])
          refine⟨by omega,by omega,⟨x0,i+2,y,t,l0,s',_,k',by rw[show ((i+2:Nat):Int)=(i:Int)+1+1 by omega],X',by omega,by omega,by simp;omega,qi all le (i':=i+2) (by omega) (fun m=>by rw[rdA,if_neg (by omega),if_neg q34,if_neg (fun h=>h q92),if_neg (by omega),if_pos (.inl c34),c34])⟩,?_⟩
          simp only[uh,List.getD_cons_succ,List.getD_cons_zero]
          omega
        by_cases c92:bt s (i+1)=92
        · iterate 16 (try simp only[ae];try simp[go_sem,hz,hz3,hz4,q92,e1,c92])
          refine⟨by omega,by omega,by omega,?_⟩
          rw[di]
          intro b hb
          refine uG X (by omega) hb (c:=92) (by omega) (by omega) rfl rfl (by simp[go_sem,e1,c92]) (fun s' k' X'=>?_)
          rw[← ae]
          iterate 2 (try simp only[ae];try simp[go_sem,ei,em])
          refine⟨by omega,by omega,⟨x0,i+2,y,t,l0,s',_,k',by rw[show ((i+2:Nat):Int)=(i:Int)+1+1 by omega],X',by omega,by omega,by simp;omega,qi all le (i':=i+2) (by omega) (fun m=>by rw[rdA,if_neg (by omega),if_neg q34,if_neg (fun h=>h q92),if_neg (by omega),if_pos (.inr c92),c92])⟩,?_⟩
          simp only[uh,List.getD_cons_succ,List.getD_cons_zero]
          omega
        by_cases c110:bt s (i+1)=110
        · iterate 16 (try simp only[ae];try simp[go_sem,hz,hz3,hz4,q92,e1,c110])
          refine⟨by omega,by omega,by omega,?_⟩
          rw[di]
          intro b hb
          refine uG X (by omega) hb (c:=10) (by omega) (by omega) rfl rfl rfl (fun s' k' X'=>?_)
          rw[← ae]
          iterate 2 (try simp only[ae];try simp[go_sem,ei,em])
          refine⟨by omega,by omega,⟨x0,i+2,y,t,l0,s',_,k',by rw[show ((i+2:Nat):Int)=(i:Int)+1+1 by omega],X',by omega,by omega,by simp;omega,qi all le (i':=i+2) (by omega) (fun m=>by rw[rdA,if_neg (by omega),if_neg q34,if_neg (fun h=>h q92),if_neg (by omega),if_neg (by omega),if_pos c110];rfl)⟩,?_⟩
          simp only[uh,List.getD_cons_succ,List.getD_cons_zero]
          omega
        by_cases c116:bt s (i+1)=116
        · iterate 16 (try simp only[ae];try simp[go_sem,hz,hz3,hz4,q92,e1,c116])
          refine⟨by omega,by omega,by omega,?_⟩
          rw[di]
          intro b hb
          refine uG X (by omega) hb (c:=9) (by omega) (by omega) rfl rfl rfl (fun s' k' X'=>?_)
          rw[← ae]
          iterate 2 (try simp only[ae];try simp[go_sem,ei,em])
          refine⟨by omega,by omega,⟨x0,i+2,y,t,l0,s',_,k',by rw[show ((i+2:Nat):Int)=(i:Int)+1+1 by omega],X',by omega,by omega,by simp;omega,qi all le (i':=i+2) (by omega) (fun m=>by rw[rdA,if_neg (by omega),if_neg q34,if_neg (fun h=>h q92),if_neg (by omega),if_neg (by omega),if_neg c110,if_pos c116];rfl)⟩,?_⟩
          simp only[uh,List.getD_cons_succ,List.getD_cons_zero]
          omega
        by_cases c120:bt s (i+1)=120
        · iterate 16 (try simp only[ae];try simp[go_sem,hz,hz3,hz4,q92,e1,c120])
          refine⟨by omega,by omega,by omega,?_⟩
          refine WQ ?_ ?_
          · rw[ei]
            exact⟨x0,i,x0,1,y,y,t,t,l0,sl,acc,hh0,by simp[go_sem,Ctx.bare,dw.den],X,lo,by omega,cnt,all,Nat.le_refl _,by omega,by omega,by omega⟩
          · rintro⟨xi,xb,xs,xv,xl,xp⟩ h' M' hc hinv hm hM1
            rw[ei] at hinv
            rw[em] at hm
            obtain⟨x0',i2,x2,k,y1,y2,t1,t2,l1,sl2,acc2,hh2,hC,X2,lo2,a1,cnt2,all2,k1,k3,a4,a5⟩:=hinv
            simp[Ctx.push,Ctx.heap,Ctx.bare] at hC
            obtain⟨⟨rfl,hii,rfl⟩,⟨rfl,rfl⟩,⟨rfl,rfl⟩,rfl,⟨rfl,rfl,rfl⟩,rfl,rfl⟩:=hC
            obtain rfl:i2=i:=by omega
            have hm':M' 1=((3:Int) - k).toNat:=hm
            have hM0:M' 0=M 0:=hM1 0 (by decide)
            clear hm hM1 hc
            have hno:¬ (i2+3<s.length∧0≤hx (bt s (i2+2))∧0≤hx (bt s (i2+3)))→rdA s.length s 1 []=none:=fun hn=>qj all2 le fun m=>by
             rw[rdA,if_neg (by omega),if_neg q34,if_neg (fun h=>h q92),if_neg (by omega),if_neg (by omega),if_neg (by omega),if_neg (by omega),if_pos c120,if_neg hn]
            have hx15:=X8 (bt s (i2+2))
            have hx16:=X8 (bt s (i2+3))
            rw[← ae]
            by_cases hk:k≤2
            · have hkz:(k:Int)≤2:=by omega
              have e2:((i2:Int)+1+k).toNat=i2+1+k:=by omega
              have hjd:=Gp s (i2+1+k)
              by_cases hjl:s.length≤i2+1+k
              · have hjz:(s.length:Int)≤(i2:Int)+1+k:=by omega
                have hjz':¬ (i2:Int)+1+k<s.length:=by omega
                iterate 12 (try simp only[ae];try simp[go_sem,ep,hkz,hjz,hjz'])
                exact⟨by omega,by omega,by omega,by omega,no X2.kept (hno (by omega)) _ _⟩
              have hjz:¬ (s.length:Int)≤(i2:Int)+1+k:=by omega
              have hjz3:(i2:Int)+1+k<s.length:=by omega
              by_cases hneg:hx (bt s (i2+1+k))<0
              · iterate 12 (try simp only[ae];try simp[go_sem,ep,s1,oD,hkz,hjz,hjz3,e2,hjd.1,hjd.2,hneg])
                refine⟨by omega,by omega,by omega,by omega,by omega,by omega,by omega,no X2.kept (hno ?_) _ _⟩
                rintro⟨_,g1,g2⟩
                rcases (by omega:k=1∨k=2) with rfl | rfl
                · exact absurd hneg (by rw[show i2+1+1=i2+2 by omega];omega)
                · exact absurd hneg (by rw[show i2+1+2=i2+3 by omega];omega)
              · iterate 12 (try simp only[ae];try simp[go_sem,s1,oD,hkz,hjz,hjz3,e2,hjd.1,hjd.2,hneg])
                refine⟨by omega,by omega,by omega,by omega,by omega,by omega,by omega,?_,?_⟩
                · rw[ei]
                  refine⟨x0,i2,x2,k+1,y,y2,t,t2,l0,sl,acc2,h',by simp,X2,lo2,a1,cnt2,all2,by omega,by omega,fun h2=>?_,fun h3=>?_⟩
                  · by_cases e:k=1
                    · subst e
                      rw[show i2+1+1=i2+2 by omega] at hneg
                      exact⟨by omega,by omega⟩
                    · exact a4 (by omega)
                  · obtain rfl:k=2:=by omega
                    rw[show i2+1+2=i2+3 by omega] at hneg
                    exact⟨by omega,by omega⟩
                · rw[em]
                  simp only[uh,List.getD_cons_succ,List.getD_cons_zero]
                  omega
            · have hkz:¬ (k:Int)≤2:=by omega
              obtain⟨g1,g2⟩:=a4 (by omega)
              obtain⟨g3,g4⟩:=a5 (by omega)
              have e3:((i2:Int)+1+1).toNat=i2+2:=by omega
              have e4:((i2:Int)+1+2).toNat=i2+3:=by omega
              have b3:=Gp s (i2+2)
              have b4:=Gp s (i2+3)
              have z3:(i2:Int)+1+1<s.length:=by omega
              have z4:(i2:Int)+1+2<s.length:=by omega
              iterate 12 (try simp only[ae];try simp[go_sem,s1,oD,hkz,e3,e4,z3,z4,b3.1,b3.2,b4.1,b4.2])
              refine⟨by omega,by omega,by omega,by omega,by omega,by omega,by omega,by omega,by omega,by omega,?_⟩
              have hw:IntKind.u8.wrap (hx (bt s (i2+2))*16+hx (bt s (i2+3)))=16*hx (bt s (i2+2))+hx (bt s (i2+3)):=by rw[IntKind.wrap_u8];omega
              rw[di]
              intro b hb
              refine uG X2 (by omega) hb (c:=16*hx (bt s (i2+2))+hx (bt s (i2+3))) (by omega) (by omega) rfl rfl (by simp[go_sem,hw]) (fun s' k' X'=>?_)
              rw[← ae]
              iterate 4 (try simp only[ae];try simp[go_sem,ei,em])
              refine⟨by omega,by omega,by omega,by omega,⟨x2,i2+4,y2,t2,l0,s',_,k',by rw[show ((i2+4:Nat):Int)=(i2:Int)+1+2+1 by omega],X',by omega,by omega,by simp;omega,qi all2 le (i':=i2+4) (by omega) (fun m=>by
               rw[rdA,if_neg (by omega),if_neg q34,if_neg (fun h=>h q92),if_neg (by omega),if_neg (by omega),if_neg (by omega),if_neg (by omega),if_pos c120,if_pos ⟨g3,g2,g4⟩])⟩,?_⟩
              simp only[uh,List.getD_cons_succ,List.getD_cons_zero]
              omega
        · iterate 16 (try simp only[ae];try simp[go_sem,ep,hz,hz3,hz4,q92,e1,c34,c92,c110,c116,c120])
          refine⟨by omega,by omega,by omega,?_⟩
          exact no X.kept (qj all le fun m=>by rw[rdA,if_neg (by omega),if_neg q34,if_neg (fun h=>h q92),if_neg (by omega),if_neg (by omega),if_neg c110,if_neg c116,if_neg c120]) _ _
      · iterate 6 (try simp only[ae];try simp[go_sem,hz,p1,p2,q34,q92])
        rw[di]
        intro b hb
        refine uG X (by omega) hb (c:=bt s i) hibd.1 hibd.2 rfl rfl rfl (fun s' k' X'=>?_)
        rw[← ae]
        iterate 2 (try simp only[ae];try simp[go_sem,ei,em])
        refine⟨by omega,by omega,⟨x0,i+1,y,t,l0,s',_,k',by simp,X',by omega,by omega,by simp;omega,qi all le (Nat.lt_succ_self i) (fun m=>by rw[rdA,if_neg (by omega),if_neg q34,if_pos q92])⟩,?_⟩
        simp only[uh,List.getD_cons_succ,List.getD_cons_zero]
        omega
  · rw[if_pos (.inr h34)] at hφ
    iterate 3 (try simp only[ae];try simp[go_sem,ep,hs0,h34])
    exact⟨hpos,h,fun _ _ h=>h,hφ _ _⟩
end Go.Proofs.YtgpanefhaiohnaaGreatDoor
namespace Go.Proofs.YtgpanefhaiohnaaGreatDoor
open Go.RowKit
attribute [local go_sem] aZ aY ag ai ak aN au aC aj says_again BE.den IE.den SE.den LE.den AE.den CE.den PE.den VE.den KV.val dw.den dw.cnt iM dU iY allL Ctx.push Ctx.heap Ctx.cut Ctx.bare Ctx.mark Inc.blank List.getD_cons_zero List.getD_cons_succ List.cons_append List.nil_append List.append_nil List.map_cons List.map_nil List.replicate_zero List.replicate_succ aB bQ bu bG bn bY cO aU aT aV bF bD aF aO aH aA ax aS aI bW af and_assoc
def Oc:Fm:=(.N (.and (.le (.c 0) (.x 0)) (.lt (.x 0) (.len (.x 0))))
 (.C 101 [(.one (.i .u8 (.at (.x 0) (.x 0))))] (.p (.J 1)) ⟨1,0,0,0,0,0⟩
 (.ite (.eqI (.x 1) (.c 1))
 (.ite (.eqI (.x 1) (.c 1))
 (.C 102 [.S 0,.J 0] (.p (.J 2)) ⟨1,0,0,0,0,0⟩
 (.N (.and (.and (.le (.c 0) (.x 2)) (.le (.x 2) (.len (.x 0)))) (.and (.le (.c 0) (.x 0)) (.le (.x 0) (.x 2))))
 (.N (.and (.le (.c 0) (.x 0)) (.lt (.x 0) (.len (.x 0))))
 (.C 101 [(.one (.i .u8 (.at (.x 0) (.x 0))))] (.p (.J 3)) ⟨1,0,0,0,0,0⟩
 (.ite (.eqI (.x 3) (.c 2))
 (.ret (.tup [(.agg [(.i .u8 (.c 2)),(.i .i64 (.c 0)),(.i .i64 (.c 0)),(.i .i64 (.c 0)),(.s (.sub (.x 0) (.x 0) (.x 2)))]),.J 2,(.I (.c 0))]))
 (.C 103 [(.one (.s (.sub (.x 0) (.x 0) (.x 2))))] (.p (.B 0)) ⟨0,1,0,0,0,0⟩
 (.ite (.x 0)
 (.ret (.tup [(.agg [(.i .u8 (.c 6)),(.i .i64 (.c 0)),(.i .i64 (.c 0)),(.i .i64 (.c 0)),(.s (.sub (.x 0) (.x 0) (.x 2)))]),.J 2,(.I (.c 0))]))
 (.ret (.tup [(.agg [(.i .u8 (.c 1)),(.i .i64 (.c 0)),(.i .i64 (.c 0)),(.i .i64 (.c 0)),(.s (.sub (.x 0) (.x 0) (.x 2)))]),.J 2,(.I (.c 0))])))))))))
 (.ite (.eqI (.x 1) (.c 3))
 (.C 104 [.S 0,.J 0] (.tup [.K 2 3 4 5 1,.J 6,.J 7]) ⟨6,0,1,0,0,0⟩
 (.ret (.tup [.K 2 3 4 5 1,.J 6,.J 7])))
 (.N (.and (.le (.c 0) (.x 0)) (.lt (.x 0) (.len (.x 0))))
 (.ite (.eqI (.at (.x 0) (.x 0)) (.c 34))
 (.N (.and (.le (.c 0) (.x 0)) (.le (.x 0) (.len (.x 0))))
 (.C 105 [(.one (.s (.sub (.x 0) (.x 0) (.len (.x 0)))))] (.tup [.S 1,.J 2,.B 0]) ⟨1,1,1,0,0,0⟩
 (.ite (.not (.x 0))
 (.ret (.tup [(.agg [(.i .u8 (.c 0)),(.i .i64 (.c 0)),(.i .i64 (.c 0)),(.i .i64 (.c 0)),(.s (.c []))]),(.I (.c 0)),(.I (.c 4))]))
 (.N (.R (.add (.x 0) (.x 2)))
 (.ret (.tup [(.agg [(.i .u8 (.c 5)),(.i .i64 (.c 0)),(.i .i64 (.c 0)),(.i .i64 (.c 0)),(.s (.x 1))]),(.I (.add (.x 0) (.x 2))),(.I (.c 0))]))))))
 (.mk [(.s (.c [38,38])),(.s (.c [124,124])),(.s (.c [61,61])),(.s (.c [33,61])),(.s (.c [60,61])),(.s (.c [62,61]))] 9 6
 (.loop 0 ⟨[(.c 0),(.c 0),(.c 0),(.c 0),(.c 0),(.c 0),(.c 0)],[],[(.c [])],[],[],[]⟩
 (.ite (.lt (.x 4) (.cnt (.x 0)))
 (.load (.le (.add (.x 0) (.c 2)) (.len (.x 0))) (.el (.x 0) (.x 4) 1 0) 1 [(.s (.x 2))] ⟨0,0,1,0,0,0⟩
 (.N (.R (.add (.x 0) (.c 2)))
 (.need (.le (.add (.x 0) (.c 2)) (.len (.x 0))) (.R (.add (.x 0) (.c 2)))
 (.need (.le (.add (.x 0) (.c 2)) (.len (.x 0))) (.and (.and (.le (.c 0) (.add (.x 0) (.c 2))) (.le (.add (.x 0) (.c 2)) (.len (.x 0)))) (.and (.le (.c 0) (.x 0)) (.le (.x 0) (.add (.x 0) (.c 2)))))
 (.need (.le (.add (.x 0) (.c 2)) (.len (.x 0))) (.X (.x 4) (.x 0))
 (.ite (.and (.le (.add (.x 0) (.c 2)) (.len (.x 0))) (.eqS (.sub (.x 0) (.x 0) (.add (.x 0) (.c 2))) (.x 2)))
 (.N (.X (.x 4) (.x 0))
 (.O (.el (.x 0) (.x 4) 1 0) 1 [(.s (.x 3))] ⟨0,0,1,0,0,0⟩
 (.N (.R (.add (.x 0) (.c 2)))
 (.ret (.tup [(.agg [(.i .u8 (.c 7)),(.i .i64 (.c 0)),(.i .i64 (.c 0)),(.i .i64 (.c 0)),(.s (.x 3))]),(.I (.add (.x 0) (.c 2))),(.I (.c 0))])))))
 (.N (.R (.add (.x 4) (.c 1)))
 (.again 0 ⟨2,0,1,0,1,0⟩ ⟨9,0,2,0,1,0⟩ ⟨[(.x 2),(.x 3),(.add (.x 4) (.c 1)),(.x 5),(.x 6),(.x 7),(.x 8)],[],[(.x 1)],[],[],[]⟩))))))))
 (.loop 1 ⟨[(.x 2),(.x 3),(.c 0),(.x 5),(.x 6),(.x 7),(.x 8)],[],[(.x 1)],[],[],[]⟩
 (.ite (.lt (.x 11) (.len (.c [43,45,42,47,37,60,62,33,61,40,41,123,125,91,93,44,59,58,46])))
 (.N (.and (.le (.c 0) (.x 0)) (.lt (.x 0) (.len (.x 0))))
 (.N (.and (.le (.c 0) (.x 11)) (.lt (.x 11) (.len (.c [43,45,42,47,37,60,62,33,61,40,41,123,125,91,93,44,59,58,46]))))
 (.ite (.eqI (.at (.x 0) (.x 0)) (.at (.c [43,45,42,47,37,60,62,33,61,40,41,123,125,91,93,44,59,58,46]) (.x 11)))
 (.N (.R (.add (.x 11) (.c 1)))
 (.N (.and (.and (.le (.c 0) (.add (.x 11) (.c 1))) (.le (.add (.x 11) (.c 1)) (.len (.c [43,45,42,47,37,60,62,33,61,40,41,123,125,91,93,44,59,58,46])))) (.and (.le (.c 0) (.x 11)) (.le (.x 11) (.add (.x 11) (.c 1)))))
 (.N (.R (.add (.x 0) (.c 1)))
 (.ret (.tup [(.agg [(.i .u8 (.c 7)),(.i .i64 (.c 0)),(.i .i64 (.c 0)),(.i .i64 (.c 0)),(.s (.sub (.c [43,45,42,47,37,60,62,33,61,40,41,123,125,91,93,44,59,58,46]) (.x 11) (.add (.x 11) (.c 1))))]),(.I (.add (.x 0) (.c 1))),(.I (.c 0))])))))
 (.N (.R (.add (.x 11) (.c 1)))
 (.again 1 ⟨9,0,2,0,1,0⟩ ⟨16,0,3,0,1,0⟩ ⟨[(.x 9),(.x 10),(.add (.x 11) (.c 1)),(.x 12),(.x 13),(.x 14),(.x 15)],[],[(.x 2)],[],[],[]⟩)))))
 (.ret (.tup [(.agg [(.i .u8 (.c 0)),(.i .i64 (.c 0)),(.i .i64 (.c 0)),(.i .i64 (.c 0)),(.s (.c []))]),(.I (.c 0)),(.I (.c 4))])))))))))))
 (.ite (.eqI (.x 1) (.c 2))
 (.C 102 [.S 0,.J 0] (.p (.J 2)) ⟨1,0,0,0,0,0⟩
 (.N (.and (.and (.le (.c 0) (.x 2)) (.le (.x 2) (.len (.x 0)))) (.and (.le (.c 0) (.x 0)) (.le (.x 0) (.x 2))))
 (.N (.and (.le (.c 0) (.x 0)) (.lt (.x 0) (.len (.x 0))))
 (.C 101 [(.one (.i .u8 (.at (.x 0) (.x 0))))] (.p (.J 3)) ⟨1,0,0,0,0,0⟩
 (.ite (.eqI (.x 3) (.c 2))
 (.ret (.tup [(.agg [(.i .u8 (.c 2)),(.i .i64 (.c 0)),(.i .i64 (.c 0)),(.i .i64 (.c 0)),(.s (.sub (.x 0) (.x 0) (.x 2)))]),.J 2,(.I (.c 0))]))
 (.C 103 [(.one (.s (.sub (.x 0) (.x 0) (.x 2))))] (.p (.B 0)) ⟨0,1,0,0,0,0⟩
 (.ite (.x 0)
 (.ret (.tup [(.agg [(.i .u8 (.c 6)),(.i .i64 (.c 0)),(.i .i64 (.c 0)),(.i .i64 (.c 0)),(.s (.sub (.x 0) (.x 0) (.x 2)))]),.J 2,(.I (.c 0))]))
 (.ret (.tup [(.agg [(.i .u8 (.c 1)),(.i .i64 (.c 0)),(.i .i64 (.c 0)),(.i .i64 (.c 0)),(.s (.sub (.x 0) (.x 0) (.x 2)))]),.J 2,(.I (.c 0))])))))))))
 (.ite (.eqI (.x 1) (.c 3))
 (.C 104 [.S 0,.J 0] (.tup [.K 2 3 4 5 1,.J 6,.J 7]) ⟨6,0,1,0,0,0⟩
 (.ret (.tup [.K 2 3 4 5 1,.J 6,.J 7])))
 (.N (.and (.le (.c 0) (.x 0)) (.lt (.x 0) (.len (.x 0))))
 (.ite (.eqI (.at (.x 0) (.x 0)) (.c 34))
 (.N (.and (.le (.c 0) (.x 0)) (.le (.x 0) (.len (.x 0))))
 (.C 105 [(.one (.s (.sub (.x 0) (.x 0) (.len (.x 0)))))] (.tup [.S 1,.J 2,.B 0]) ⟨1,1,1,0,0,0⟩
 (.ite (.not (.x 0))
 (.ret (.tup [(.agg [(.i .u8 (.c 0)),(.i .i64 (.c 0)),(.i .i64 (.c 0)),(.i .i64 (.c 0)),(.s (.c []))]),(.I (.c 0)),(.I (.c 4))]))
 (.N (.R (.add (.x 0) (.x 2)))
 (.ret (.tup [(.agg [(.i .u8 (.c 5)),(.i .i64 (.c 0)),(.i .i64 (.c 0)),(.i .i64 (.c 0)),(.s (.x 1))]),(.I (.add (.x 0) (.x 2))),(.I (.c 0))]))))))
 (.mk [(.s (.c [38,38])),(.s (.c [124,124])),(.s (.c [61,61])),(.s (.c [33,61])),(.s (.c [60,61])),(.s (.c [62,61]))] 9 6
 (.loop 0 ⟨[(.c 0),(.c 0),(.c 0),(.c 0),(.c 0),(.c 0),(.c 0)],[],[(.c [])],[],[],[]⟩
 (.ite (.lt (.x 4) (.cnt (.x 0)))
 (.load (.le (.add (.x 0) (.c 2)) (.len (.x 0))) (.el (.x 0) (.x 4) 1 0) 1 [(.s (.x 2))] ⟨0,0,1,0,0,0⟩
 (.N (.R (.add (.x 0) (.c 2)))
 (.need (.le (.add (.x 0) (.c 2)) (.len (.x 0))) (.R (.add (.x 0) (.c 2)))
 (.need (.le (.add (.x 0) (.c 2)) (.len (.x 0))) (.and (.and (.le (.c 0) (.add (.x 0) (.c 2))) (.le (.add (.x 0) (.c 2)) (.len (.x 0)))) (.and (.le (.c 0) (.x 0)) (.le (.x 0) (.add (.x 0) (.c 2)))))
 (.need (.le (.add (.x 0) (.c 2)) (.len (.x 0))) (.X (.x 4) (.x 0))
 (.ite (.and (.le (.add (.x 0) (.c 2)) (.len (.x 0))) (.eqS (.sub (.x 0) (.x 0) (.add (.x 0) (.c 2))) (.x 2)))
 (.N (.X (.x 4) (.x 0))
 (.O (.el (.x 0) (.x 4) 1 0) 1 [(.s (.x 3))] ⟨0,0,1,0,0,0⟩
 (.N (.R (.add (.x 0) (.c 2)))
 (.ret (.tup [(.agg [(.i .u8 (.c 7)),(.i .i64 (.c 0)),(.i .i64 (.c 0)),(.i .i64 (.c 0)),(.s (.x 3))]),(.I (.add (.x 0) (.c 2))),(.I (.c 0))])))))
 (.N (.R (.add (.x 4) (.c 1)))
 (.again 0 ⟨2,0,1,0,1,0⟩ ⟨9,0,2,0,1,0⟩ ⟨[(.x 2),(.x 3),(.add (.x 4) (.c 1)),(.x 5),(.x 6),(.x 7),(.x 8)],[],[(.x 1)],[],[],[]⟩))))))))
 (.loop 1 ⟨[(.x 2),(.x 3),(.c 0),(.x 5),(.x 6),(.x 7),(.x 8)],[],[(.x 1)],[],[],[]⟩
 (.ite (.lt (.x 11) (.len (.c [43,45,42,47,37,60,62,33,61,40,41,123,125,91,93,44,59,58,46])))
 (.N (.and (.le (.c 0) (.x 0)) (.lt (.x 0) (.len (.x 0))))
 (.N (.and (.le (.c 0) (.x 11)) (.lt (.x 11) (.len (.c [43,45,42,47,37,60,62,33,61,40,41,123,125,91,93,44,59,58,46]))))
 (.ite (.eqI (.at (.x 0) (.x 0)) (.at (.c [43,45,42,47,37,60,62,33,61,40,41,123,125,91,93,44,59,58,46]) (.x 11)))
 (.N (.R (.add (.x 11) (.c 1)))
 (.N (.and (.and (.le (.c 0) (.add (.x 11) (.c 1))) (.le (.add (.x 11) (.c 1)) (.len (.c [43,45,42,47,37,60,62,33,61,40,41,123,125,91,93,44,59,58,46])))) (.and (.le (.c 0) (.x 11)) (.le (.x 11) (.add (.x 11) (.c 1)))))
 (.N (.R (.add (.x 0) (.c 1)))
 (.ret (.tup [(.agg [(.i .u8 (.c 7)),(.i .i64 (.c 0)),(.i .i64 (.c 0)),(.i .i64 (.c 0)),(.s (.sub (.c [43,45,42,47,37,60,62,33,61,40,41,123,125,91,93,44,59,58,46]) (.x 11) (.add (.x 11) (.c 1))))]),(.I (.add (.x 0) (.c 1))),(.I (.c 0))])))))
 (.N (.R (.add (.x 11) (.c 1)))
 (.again 1 ⟨9,0,2,0,1,0⟩ ⟨16,0,3,0,1,0⟩ ⟨[(.x 9),(.x 10),(.add (.x 11) (.c 1)),(.x 12),(.x 13),(.x 14),(.x 15)],[],[(.x 2)],[],[],[]⟩)))))
 (.ret (.tup [(.agg [(.i .u8 (.c 0)),(.i .i64 (.c 0)),(.i .i64 (.c 0)),(.i .i64 (.c 0)),(.s (.c []))]),(.I (.c 0)),(.I (.c 4))]))))))))))))))
theorem Tt:df ⟨true,[]⟩ Tryz.prog (fun l=>([⟨[5,6,74],[75,76,13,77,78,79,80,81,82,83,84,85,86,87,88,89,90,91,92,93,94,95,96,97,98,99,100,101],[4]⟩,⟨[5,6,15],[102,103,104,105,108,109,110,111,112,113,114,115,116,117,118,119,120,121,122,106,107],[4]⟩]:List dL).getD l ⟨[],[],[]⟩) Tryz.f67=Oc:=by kernel_rfl
theorem Xf:aX Tryz.prog .zero Tryz.f67.params.toList=some ([.S 0,.J 0],⟨1,0,1,0,0,0⟩):=by kernel_rfl
theorem Vm (s:List UInt8) {i j:Nat} (h:i<j) (hj:j≤s.length):sub s i j=s[i]::sub s (i+1) j:=by
 unfold sub
 have hl:i<(s.take j).length:=by rw[List.length_take];omega
 rw[List.drop_eq_getElem_cons hl,List.getElem_take]
def TWO:List (List UInt8):=[[38,38],[124,124],[61,61],[33,61],[60,61],[62,61]]
def ONE:List UInt8:=[43,45,42,47,37,60,62,33,61,40,41,123,125,91,93,44,59,58,46]
theorem Ee:Gh=TWO++ONE.map fun c=>[c]:=rfl
theorem yD {α:Type} (P:α→Bool):∀ (l:List α) (j:Nat) (x:α),l[j]? = some x→P x=true→(∀ k y,k<j→l[k]? = some y→P y=false)→l.find? P=some x
 | [],j,x,h,_,_=>by cases h
 | a::l,0,x,h,hp,_=>by
   have e:a=x:=by simpa using h
   rw[List.find?_cons,e,hp]
 | a::l,j+1,x,h,hp,hn=>by
   rw[List.find?_cons,hn 0 a (by omega) rfl]
   exact yD P l j x (by simpa using h) hp (fun k y hk hy=>hn (k+1) y (by omega) (by simpa using hy))
theorem BL {α:Type} (P:α→Bool) (l:List α) (h:∀ (k:Nat) y,l[k]? = some y→P y=false):l.find? P=none:=by
 rw[List.find?_eq_none]
 intro x hx
 obtain⟨k,hk⟩:=List.getElem?_of_mem hx
 rw[h k x hk];simp
theorem FV {s p:List UInt8} {i:Nat} (hp:p.length=2):p.isPrefixOf (s.drop i)=true↔(i+2≤s.length∧sub s i (i+2)=p):=by
 have e:sub s i (i+2)=(s.drop i).take 2:=by
  unfold sub;rw[List.drop_take];congr 1;omega
 rw[List.isPrefixOf_iff_prefix,List.prefix_iff_eq_take,hp,e]
 constructor
 · intro h
   have:=congrArg List.length h
   rw[hp,List.length_take,List.length_drop] at this
   exact⟨by omega,h.symm⟩
 · intro h;exact h.2.symm
theorem Fj {s:List UInt8} {i:Nat} (hi:i<s.length) (c:UInt8):[c].isPrefixOf (s.drop i)=true↔bt s i=c.toNat:=by
 rw[List.drop_eq_getElem_cons hi,rO s i hi]
 simp[List.isPrefixOf]
 constructor
 · rintro rfl;rfl
 · intro h;exact (UInt8.toNat_inj.1 (by omega))
def xH (s:List UInt8) (i0 j:Nat):Prop:=∀ (k:Nat) y,k<j→TWO[k]? = some y→y.isPrefixOf (s.drop i0)=false
def ZO (h:Hp) (s:List UInt8) (i0:Nat):Nat→Ctx→Prop
 | 0,C=>∃ kx a0 a1 j a3 a4 a5 a6 t b,C=⟨[(i0:Nat),kx,a0,a1,(j:Nat),a3,a4,a5,a6],[],[s,t],[],[⟨some (b,0),6,6⟩],[],Hp.set h b ⟨strs TWO,9⟩,dY⟩∧h b=none∧j≤6∧xH s i0 j
 | _+1,C=>∃ kx a0 a1 a2 a3 a4 a5 a6 c0 c1 j c3 c4 c5 c6 t t' b,C=⟨[(i0:Nat),kx,a0,a1,a2,a3,a4,a5,a6,c0,c1,(j:Nat),c3,c4,c5,c6],[],[s,t,t'],[],[⟨some (b,0),6,6⟩],[],Hp.set h b ⟨strs TWO,9⟩,dY⟩∧h b=none∧j≤19∧xH s i0 6∧
  ∀ (k:Nat) y,k<j→ONE[k]? = some y→bt s i0≠y.toNat
def I7:Nat→Ctx→Nat
 | 0,C=>(6 - C.i.getD 4 0).toNat
 | _+1,C=>(19 - C.i.getD 11 0).toNat
theorem Y2 {s:List UInt8} {i0:Nat} (hk:¬ (nZ (bt s i0)=1∨nZ (bt s i0)=2)) (hk3:¬ nZ (bt s i0)=3) (h34:¬ bt s i0=34):one s i0=if sg (s.drop i0)=[] then ⟨4,0,[],0,0⟩ else ⟨0,7,sg (s.drop i0),0,i0+(sg (s.drop i0)).length⟩:=by
 unfold one
 rw[if_neg hk,if_neg hk3,if_neg h34]
theorem Xy {s:List UInt8} {i0 j:Nat} {x:List UInt8} (hn:xH s i0 j) (hx:TWO[j]? = some x) (hp:x.isPrefixOf (s.drop i0)=true):sg (s.drop i0)=x:=by
 unfold sg
 rw[Ee,List.find?_append,yD (fun p=>p.isPrefixOf (s.drop i0)) TWO j x hx hp (fun k y hk hy=>hn k y hk hy)]
 rfl
theorem IL {s:List UInt8} {i0:Nat} (hn:xH s i0 6):TWO.find? (fun p=>p.isPrefixOf (s.drop i0))=none:=
 BL _ _ fun k y hy=>hn k y (by have:=(List.getElem?_eq_some_iff.1 hy).1;exact this) hy
theorem Xx {s:List UInt8} {i0 j:Nat} {c:UInt8} (hi:i0<s.length) (hn:xH s i0 6) (hj:∀ (k:Nat) y,k<j→ONE[k]? = some y→bt s i0≠y.toNat) (hx:ONE[j]? = some c) (hp:bt s i0=c.toNat):sg (s.drop i0)=[c]:=by
 unfold sg
 rw[Ee,List.find?_append,IL hn,Option.none_or,yD (fun p=>p.isPrefixOf (s.drop i0)) (ONE.map fun c=>[c]) j [c] (by simp[hx]) ((Fj hi c).2 hp) (fun k y hk hy=>?_)]
 · rfl
 · simp only[List.getElem?_map,Option.map_eq_some_iff] at hy
   obtain⟨d,hd,rfl⟩:=hy
   cases hq:[d].isPrefixOf (s.drop i0)
   · rfl
   · exact absurd ((Fj hi d).1 hq) (hj k d hk hd)
theorem Xw {s:List UInt8} {i0:Nat} (hi:i0<s.length) (hn:xH s i0 6) (hj:∀ (k:Nat) y,k<19→ONE[k]? = some y→bt s i0≠y.toNat):sg (s.drop i0)=[]:=by
 unfold sg
 rw[Ee,List.find?_append,IL hn,Option.none_or,BL (fun p=>p.isPrefixOf (s.drop i0)) (ONE.map fun c=>[c]) (fun k y hy=>?_)]
 · rfl
 · simp only[List.getElem?_map,Option.map_eq_some_iff] at hy
   obtain⟨d,hd,rfl⟩:=hy
   cases hq:[d].isPrefixOf (s.drop i0)
   · rfl
   · exact absurd ((Fj hi d).1 hq) (hj k d (by have:=(List.getElem?_eq_some_iff.1 hd).1;exact this) hd)
set_option maxRecDepth 100000 in
set_option maxHeartbeats 8000000 in
def Sm:Ct Tryz.prog where
 f:=67
 spec:=fun args h φ=>∃ s i0,args=[.string (B s),.int .i64 (i0:Nat)]∧i0<s.length∧s.length≤100000∧nZ (bt s i0)≠3∧
  (if (one s i0).f=0 then φ (.tuple #[VN (one s i0).k 0 0 (one s i0).n (one s i0).x,.int .i64 ((one s i0).e:Nat),.int .i64 0]) h
   else ∀ kk,φ (.tuple #[VN kk 0 0 0 [],.int .i64 0,.int .i64 (one s i0).f]) h)
 ok:=by
  rintro args h φ w ⟨s,i0,rfl,hi0,hlen,k3,hφ⟩ hH
  refine fA (dD Tryz.func67 Tt Xf [jU,GL,NP,NM] (fun v k=>∃ k',dm k' k∧φ v k') (ZO h s i0) I7 ⟨[(i0:Nat)],[],[s],[],[],[],h,dY⟩ ⟨rfl,rfl,rfl,rfl,rfl,rfl⟩ af ?_ w hH rfl)
  generalize hE:(⟨aB _,_,_,_⟩:Env)=E
  have s1:E.spec 101=jU.spec:=by rw[← hE];rfl
  have s2:E.spec 102=GL.spec:=by rw[← hE];rfl
  have s3:E.spec 103=NP.spec:=by rw[← hE];rfl
  have s5:E.spec 105=NM.spec:=by rw[← hE];rfl
  have ep:E.post=fun v k=>∃ k',dm k' k∧φ v k':=by rw[← hE]
  have ei:E.inv=ZO h s i0:=by rw[← hE]
  have em:E.meas=I7:=by rw[← hE]
  clear hE
  have hz:(i0:Int)<s.length:=by omega
  rw[← ae];unfold Oc
  by_cases k1:nZ (bt s i0)=1
  · iterate 4 (try simp only[ae];try simp[go_sem,s1,jU,hz,k1])
    have hin:inB (bt s i0)=true:=by simp[inB,k1]
    have hone:one s i0=⟨0,wF (bt s i0) (sub s i0 (i0+rn inB s i0)),sub s i0 (i0+rn inB s i0),0,i0+rn inB s i0⟩:=by unfold one;rw[if_pos (.inl k1)]
    have hle:=Yj (p:=inB) (s:=s) (i:=i0) (by omega)
    rw[hone,if_pos rfl] at hφ
    rw[ae,ak,if_pos (by rfl),s2]
    refine⟨s,i0,rfl,by omega,by omega,by omega,(fun h=>by cases h),?_⟩
    rw[Int.toNat_natCast]
    simp[go_sem]
    generalize rn inB s i0=N at *
    have e1:((i0:Int)+N).toNat=i0+N:=by omega
    have e2:List.drop i0 (List.take (i0+N) s)=sub s i0 (i0+N):=rfl
    iterate 5 (try simp only[ae];try simp[go_sem,s1,jU,hz,k1,e1,e2])
    refine⟨by omega,by omega,by omega,?_⟩
    rw[s3]
    refine⟨sub s i0 (i0+N),rfl,fun k' hk'=>?_⟩
    have hk2':¬ nZ (bt s i0)=2:=by omega
    unfold wF at hφ
    rw[if_neg hk2'] at hφ
    cases hw:iF (sub s i0 (i0+N))
    · rw[hw] at hφ
      refine .inl ⟨rfl,?_⟩
      iterate 2 (try simp only[ae];try simp[go_sem,ep,e1,e2])
      exact⟨h,hk',by simpa[VN] using hφ⟩
    · rw[hw] at hφ
      refine .inr ⟨rfl,?_⟩
      iterate 2 (try simp only[ae];try simp[go_sem,ep,e1,e2])
      exact⟨h,hk',by simpa[VN] using hφ⟩
  by_cases k2:nZ (bt s i0)=2
  · iterate 4 (try simp only[ae];try simp[go_sem,s1,jU,hz,k2])
    have hin:inB (bt s i0)=true:=by simp[inB,k2]
    have hone:one s i0=⟨0,wF (bt s i0) (sub s i0 (i0+rn inB s i0)),sub s i0 (i0+rn inB s i0),0,i0+rn inB s i0⟩:=by unfold one;rw[if_pos (.inr k2)]
    have hle:=Yj (p:=inB) (s:=s) (i:=i0) (by omega)
    rw[hone,if_pos rfl] at hφ
    rw[ae,ak,if_pos (by rfl),s2]
    refine⟨s,i0,rfl,by omega,by omega,by omega,(fun h=>by cases h),?_⟩
    rw[Int.toNat_natCast]
    simp[go_sem]
    generalize rn inB s i0=N at *
    have e1:((i0:Int)+N).toNat=i0+N:=by omega
    have e2:List.drop i0 (List.take (i0+N) s)=sub s i0 (i0+N):=rfl
    iterate 5 (try simp only[ae];try simp[go_sem,s1,jU,hz,k2,e1,e2,ep])
    unfold wF at hφ
    rw[if_pos k2] at hφ
    exact⟨by omega,by omega,by omega,h,fun _ _ h=>h,by simpa[VN] using hφ⟩
  by_cases h34:bt s i0=34
  · have hk34:nZ 34=0:=by decide
    iterate 8 (try simp only[ae];try simp[go_sem,s1,jU,hz,h34,hk34])
    refine⟨by omega,?_⟩
    have hdl:(s.drop i0).length=s.length - i0:=List.length_drop
    have htl:List.drop i0 (List.take s.length s)=s.drop i0:=by rw[List.take_length]
    have hk12:¬ (nZ (bt s i0)=1∨nZ (bt s i0)=2):=by omega
    rw[ae,ak,if_pos (by rfl),s5]
    refine⟨s.drop i0,by simp[go_sem],by omega,?_⟩
    cases hq:Y9 (s.drop i0) with
    | none=>
      have hone:one s i0=⟨4,0,[],0,0⟩:=by
       unfold one;rw[if_neg hk12,if_neg k3,if_pos h34,hq]
      rw[hone,if_neg (by decide)] at hφ
      intro t n
      refine⟨(fun h=>by cases h),?_⟩
      simp[go_sem]
      iterate 2 (try simp only[ae];try simp[go_sem,ep])
      exact⟨h,fun _ _ h=>h,by simpa[VN] using hφ 0⟩
    | some r=>
      obtain⟨t,m⟩:=r
      obtain⟨m1,m2,_⟩:=UN hq
      have hone:one s i0=⟨0,5,t,0,i0+m⟩:=by
       unfold one;rw[if_neg hk12,if_neg k3,if_pos h34,hq]
      rw[hone,if_pos rfl] at hφ
      refine⟨(fun h=>by cases h),?_⟩
      simp[go_sem]
      iterate 3 (try simp only[ae];try simp[go_sem,ep])
      exact⟨by omega,by omega,h,fun _ _ h=>h,by simpa[VN] using hφ⟩
  iterate 7 (try simp only[ae];try simp[go_sem,s1,jU,hz,k1,k2,k3,h34])
  have hk12:¬ (nZ (bt s i0)=1∨nZ (bt s i0)=2):=by omega
  have hone:=Y2 hk12 k3 h34
  rw[ae,di]
  intro b hb
  refine aQ ?_ ?_
  · rw[ei]
    exact⟨nZ (bt s i0),0,0,0,0,0,0,0,[],b,rfl,hb,by omega,fun k y hk=>by omega⟩
  rw[ei,em]
  rintro i' bb ss v ll pp hh0 M ⟨kx,a0,a1,j,a3,a4,a5,a6,t,b',hC,hb',hj6,hno⟩ hM
  cases hC
  have hM':M 0=((6:Int) - j).toNat:=hM
  clear hM hb
  have hle':dm h (Hp.set h b' ⟨strs TWO,9⟩):=dF hb' _
  have kb:(Hp.set h b' ⟨strs TWO,9⟩) b'=some ⟨strs TWO,9⟩:=ax _ _ _
  generalize hHd:Hp.set h b' ⟨strs TWO,9⟩=H at *
  rw[← ae]
  by_cases hj:j<6
  · have hjz:(j:Int)<6:=by omega
    obtain⟨x,hx⟩:∃ x,TWO[j]? = some x:=⟨_,List.getElem?_eq_getElem (show j<TWO.length from hj)⟩
    have hx2:x.length=2:=by
     have hall:TWO.all (fun x=>decide (x.length=2))=true:=by decide
     simpa using List.all_eq_true.1 hall x (List.mem_of_getElem? hx)
    have hrd:=Ld kb hx
    have e1:((i0:Int)+2).toNat=i0+2:=by omega
    have e2:List.drop i0 (List.take (i0+2) s)=sub s i0 (i0+2):=rfl
    have nt:x.isPrefixOf (s.drop i0)=false→xH s i0 (j+1):=fun hf k y hk hy=>by
     by_cases e:k=j
     · subst e;rw[hx] at hy;cases hy;exact hf
     · exact hno k y (by omega) hy
    by_cases h2:i0+2≤s.length
    · have h2z:(i0:Int)+2≤s.length:=by omega
      by_cases hp:sub s i0 (i0+2)=x
      · have hsg:=Xy hno hx ((FV hx2).2 ⟨h2,hp⟩)
        rw[hsg,if_neg (by intro e;rw[e] at hx2;cases hx2)] at hone
        rw[hone,if_pos rfl] at hφ
        iterate 11 (try simp only[ae];try simp[go_sem,ep,hjz,hrd,h2z,e1,e2,hp])
        refine⟨by omega,by omega,by omega,by omega,by omega,by omega,by omega,by omega,h,hle',?_⟩
        have hl2:((i0+x.length:Nat):Int)=(i0:Int)+2:=by omega
        simpa[VN,hl2,hx2] using hφ
      · iterate 11 (try simp only[ae];try simp[go_sem,ei,em,hjz,hrd,h2z,e1,e2,hp])
        refine⟨by omega,by omega,by omega,by omega,by omega,by omega,by omega,by omega,⟨kx,a0,a1,j+1,a3,a4,a5,a6,t,b',by rw[hHd,show ((j+1:Nat):Int)=(j:Int)+1 by omega],hb',by omega,nt ?_⟩,?_⟩
        · cases hq:x.isPrefixOf (s.drop i0)
          · rfl
          · exact absurd ((FV hx2).1 hq).2 hp
        · simp only[I7,List.getD_cons_succ,List.getD_cons_zero]
          omega
    · have h2z:¬ (i0:Int)+2≤s.length:=by omega
      iterate 11 (try simp only[ae];try simp[go_sem,ei,em,hjz,h2z])
      refine⟨by omega,by omega,by omega,by omega,⟨kx,a0,a1,j+1,a3,a4,a5,a6,t,b',by rw[hHd,show ((j+1:Nat):Int)=(j:Int)+1 by omega],hb',by omega,nt ?_⟩,?_⟩
      · cases hq:x.isPrefixOf (s.drop i0)
        · rfl
        · exact absurd ((FV hx2).1 hq).1 h2
      · simp only[I7,List.getD_cons_succ,List.getD_cons_zero]
        omega
  · have hjz:¬ (j:Int)<6:=by omega
    iterate 1 (try simp only[ae];try simp[go_sem,hjz])
    try rw[ae]
    refine aQ ?_ ?_
    · rw[ei]
      exact⟨kx,a0,a1,(j:Nat),a3,a4,a5,a6,a0,a1,0,a3,a4,a5,a6,t,t,b',by rw[hHd];rfl,hb',by omega,by rw[show j=6 by omega] at hno;exact hno,fun k y hk=>by omega⟩
    · clear hno hM' hj6 hj hjz
      clear hle' kb hHd
      rw[ei,em]
      rintro i' bb ss v ll pp hh1 M1 ⟨kx1,d0,d1,d2,d3,d4,d5,d6,c0,c1,j1,c3,c4,c5,c6,t1,t2,b1,hC,hb1,hj19,hno6,hn1⟩ hM
      cases hC
      have hM':M1 1=((19:Int) - j1).toNat:=hM
      clear hM
      have hle':dm h (Hp.set h b1 ⟨strs TWO,9⟩):=dF hb1 _
      generalize hHd:Hp.set h b1 ⟨strs TWO,9⟩=H1 at *
      have hONE:([43,45,42,47,37,60,62,33,61,40,41,123,125,91,93,44,59,58,46]:List UInt8)=ONE:=rfl
      have hol:ONE.length=19:=rfl
      rw[← ae]
      by_cases hj:j1<19
      · have hjz:(j1:Int)<19:=by omega
        obtain⟨c,hc⟩:∃ c,ONE[j1]? = some c:=⟨_,List.getElem?_eq_getElem (show j1<ONE.length from hj)⟩
        have hob:bt ONE j1=c.toNat:=by
         have hjl:j1<ONE.length:=hj
         rw[rO ONE j1 hjl,(List.getElem?_eq_some_iff.1 hc).2]
        have e1:((j1:Int)+1).toNat=j1+1:=by omega
        have e3:List.drop j1 (List.take (j1+1) ONE)=[c]:=by
         have hjl:j1<ONE.length:=hj
         have:=Vm ONE (i:=j1) (j:=j1+1) (by omega) hjl
         rw[Vo,(List.getElem?_eq_some_iff.1 hc).2] at this
         exact this
        by_cases hp:bt s i0=bt ONE j1
        · have hsg:=Xx hi0 hno6 hn1 hc (by rw[hp,hob])
          rw[hsg,if_neg (by simp)] at hone
          rw[hone,if_pos rfl] at hφ
          iterate 9 (try simp only[ae];try simp[go_sem,ep,hONE,hol,hjz,hz,hp,e1,e3])
          exact⟨by omega,by omega,by omega,by omega,by omega,by omega,by omega,h,hle',by simpa[VN] using hφ⟩
        · iterate 9 (try simp only[ae];try simp[go_sem,ei,em,hONE,hol,hjz,hz,hp])
          refine⟨by omega,by omega,⟨kx1,d0,d1,d2,d3,d4,d5,d6,c0,c1,j1+1,c3,c4,c5,c6,t1,t2,b1,by rw[hHd,show ((j1+1:Nat):Int)=(j1:Int)+1 by omega],hb1,by omega,hno6,fun k y hk hy=>?_⟩,?_⟩
          · by_cases e:k=j1
            · subst e;rw[hc] at hy;cases hy;rw[← hob];exact hp
            · exact hn1 k y (by omega) hy
          · simp only[I7,List.getD_cons_succ,List.getD_cons_zero]
            omega
      · have hjz:¬ (j1:Int)<19:=by omega
        have hsg:=Xw hi0 hno6 (by rw[show j1=19 by omega] at hn1;exact hn1)
        rw[hsg,if_pos rfl] at hone
        rw[hone,if_neg (by decide)] at hφ
        iterate 3 (try simp only[ae];try simp[go_sem,ep,hONE,hol,hjz])
        exact⟨h,hle',by simpa[VN] using hφ 0⟩
end Go.Proofs.YtgpanefhaiohnaaGreatDoor
