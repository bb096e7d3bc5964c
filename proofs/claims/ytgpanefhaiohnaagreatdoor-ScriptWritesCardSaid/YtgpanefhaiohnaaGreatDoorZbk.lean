/- hindcastlaw29: texts joined: ScrAF, ScrAG. -/
import Derived.Test.YtgpanefhaiohnaaGreatDoorZbj
namespace Go.Proofs.YtgpanefhaiohnaaGreatDoor
open Go.ChangeShapes Go.WideShapes Go.Deep Go.RowKit
set_option maxRecDepth 100000
theorem fC {H:Type} {enc:TypeId×Value→H} {P:Program} {W:World} {base:Nat} {spare:Nat→Bool} {held:Bool} {n:Nat} {fs:Array Field} {cs:List Value} {xs:List (DataW H×List MemPlace)} (hone:oneCellFields P fs=true)
 (hg:∀ (i:Nat) (f:Field),fs[i]? = some f→DataW.trod enc P W base spare held n f.type ((cs.drop f.offset).take (P.cellsOf f.type))=xs[i]?) (j:Nat) {f:Field} {c:Value} {y:Option (DataW H×List MemPlace)} (hj:fs[j]? = some f) (hc:cs[j]? = some c) (hy:xs[j]? = y):
 DataW.trod enc P W base spare held n f.type [c]=y:=by
 have h:=hg j f hj
 obtain⟨o,k⟩:=hone_of hone j f hj
 obtain⟨hl,he⟩:=List.getElem?_eq_some_iff.1 hc
 rw[o,k,List.drop_eq_getElem_cons hl,he] at h
 exact h.trans hy
theorem Zg {n:Int} (h:(Lit.int .i64 n).wf=true):AP n:=by
 simp[Lit.wf,IntKind.min,IntKind.max,IntKind.signed,IntKind.bits] at h
 exact⟨by omega,by omega⟩
theorem BN {G:Nat→List Value} {K:Nat→Int}:∀ {n:Nat},(∀ i,i<n→G i=[.int .i64 (K i)])→(List.range n).flatMap G=dQ ((List.range n).map K)
 | 0,_=>rfl
 | n+1,h=>by
   rw[List.range_succ,List.flatMap_append,List.map_append,lg,BN (fun i hi=>h i (by omega))]
   simp[h n (by omega),dQ]
theorem BO {G:Nat→List Value} {K:Nat→List UInt8}:∀ {n:Nat},(∀ i,i<n→G i=[.string (B (K i))])→(List.range n).flatMap G=bZ ((List.range n).map K)
 | 0,_=>rfl
 | n+1,h=>by
   rw[List.range_succ,List.flatMap_append,List.map_append,lh,BO (fun i hi=>h i (by omega))]
   simp[h n (by omega),bZ]
theorem BM {G:Nat→List Value} {K:Nat→Int×Int×Int}:∀ {n:Nat},(∀ i,i<n→G i=[.int .i64 (K i).1,.int .i64 (K i).2.2,.int .i64 (K i).2.1])→(List.range n).flatMap G=eP ((List.range n).map K)
 | 0,_=>rfl
 | n+1,h=>by
   rw[List.range_succ,List.flatMap_append,List.map_append,mX,BM (fun i hi=>h i (by omega))]
   simp[h n (by omega),eP]
section
variable {H:Type} {enc:TypeId×Value→H} {W:World} {b0 base:Nat} {spare:Nat→Bool} {held:Bool} {fuel:Nat} {t e:TypeId} {c:Value} {y:DataW H×List MemPlace}
theorem open_ints (hs:Tryz.prog.underlying t=some (.slice e)) (he:Tryz.prog.underlying e=some (.int .i64)) (hsz:Tryz.prog.cellsOf e=1) (hv:Cell.okWide Tryz.prog W .any b0 t c) (h:DataW.trod enc Tryz.prog W base spare held fuel t [c]=some y):
 ∃ s l,c=s.val∧Row (kM W) s (dQ l) l.length 1∧∀ n∈l,AP n:=by
 obtain⟨s,n,G,rfl,R,hG⟩:=open_row hs hsz (by decide) hv h
 have each:∀ i,i<n→∃ k:Int,G i=[.int .i64 k]∧AP k:=fun i hi=>by
  obtain⟨k,y,ht⟩:=hG i hi
  obtain⟨m,e1,_,w⟩:=DataW.trod_int he ht
  exact⟨m,e1,Zg w⟩
 obtain⟨K,hK⟩:=lH each
 refine⟨s,(List.range n).map K,rfl,?_,fun m hm=>?_⟩
 · rw[BN (fun i hi=>(hK i hi).1)] at R
   simpa using R
 · obtain⟨i,hi,rfl⟩:=List.mem_map.1 hm
   exact (hK i (List.mem_range.1 hi)).2
theorem open_strs (hs:Tryz.prog.underlying t=some (.slice e)) (he:Tryz.prog.underlying e=some .string) (hsz:Tryz.prog.cellsOf e=1) (hv:Cell.okWide Tryz.prog W .any b0 t c) (h:DataW.trod enc Tryz.prog W base spare held fuel t [c]=some y):
 ∃ s l,c=s.val∧Row (kM W) s (bZ l) l.length 1:=by
 obtain⟨s,n,G,rfl,R,hG⟩:=open_row hs hsz (by decide) hv h
 have each:∀ i,i<n→∃ k:List UInt8,G i=[.string (B k)]:=fun i hi=>by
  obtain⟨k,y,ht⟩:=hG i hi
  obtain⟨m,e1,_,_⟩:=DataW.trod_string he ht
  exact⟨m.data.toList,by rw[e1,← pg m]⟩
 obtain⟨K,hK⟩:=lH each
 refine⟨s,(List.range n).map K,rfl,?_⟩
 rw[BO (fun i hi=>hK i hi)] at R
 simpa using R
theorem Um {k:Nat} {cs:List Value} (h:DataW.trod enc Tryz.prog W base spare held k 53 cs=some y):∃ a:Int×Int×Int,cs=[.int .i64 a.1,.int .i64 a.2.2,.int .i64 a.2.1]:=by
 obtain⟨xs,n,_,hx,hl,hxl,hg⟩:=DataW.trod_struct Tryz.underlying53 h
 have h3:Tryz.prog.cellsOf 53=3:=by kernel_rfl
 rw[h3] at hl
 have hxl3:xs.length=3:=hxl
 match cs,hl with
 | [c0,c1,c2],_=>
   match xs,hxl3,hg with
   | [y0,y1,y2],_,hg=>
     have q0:=fC (by kernel_rfl) hg 0 rfl rfl rfl
     have q1:=fC (by kernel_rfl) hg 1 rfl rfl rfl
     have q2:=fC (by kernel_rfl) hg 2 rfl rfl rfl
     obtain⟨n0,e0,_,_⟩:=DataW.trod_int Tryz.underlying3 q0
     obtain⟨n1,e1,_,_⟩:=DataW.trod_int Tryz.underlying3 q1
     obtain⟨n2,e2,_,_⟩:=DataW.trod_int Tryz.underlying3 q2
     simp only[List.cons.injEq,and_true] at e0 e1 e2
     subst e0 e1 e2
     exact⟨(n0,n2,n1),rfl⟩
theorem Qv (hs:Tryz.prog.underlying t=some (.slice 53)) (hv:Cell.okWide Tryz.prog W .any b0 t c) (h:DataW.trod enc Tryz.prog W base spare held fuel t [c]=some y):
 ∃ s l,c=s.val∧Row (kM W) s (eP l) l.length 3:=by
 obtain⟨s,n,G,rfl,R,hG⟩:=open_row hs (show Tryz.prog.cellsOf 53=3 by kernel_rfl) (by decide) hv h
 have each:∀ i,i<n→∃ a:Int×Int×Int,G i=[.int .i64 a.1,.int .i64 a.2.2,.int .i64 a.2.1]:=fun i hi=>by
  obtain⟨k,y,ht⟩:=hG i hi
  exact Um ht
 obtain⟨K,hK⟩:=lH each
 refine⟨s,(List.range n).map K,rfl,?_⟩
 rw[BM (fun i hi=>hK i hi)] at R
 simpa using R
set_option maxHeartbeats 2000000 in
theorem open_script {v:Value} {d:DataW H} {p:List MemPlace} (hv:Value.okWide Tryz.prog W .any b0 32 v) (h:DataW.Trod enc Tryz.prog W base spare held 32 v d p):
 ∃ q x,v=.agg (bz q x).toArray∧FX (kM W) q x∧Zl x:=by
 obtain⟨fuel,hf⟩:=h
 have hs:=Tryz.underlying32
 have h13:Tryz.prog.cellsOf 32=13:=by kernel_rfl
 have hv2:=hv
 simp only[Value.okWide,hs] at hv2
 obtain⟨cs,rfl,hsz,ts,hts,_,hcell⟩:=hv2
 have hts':Tryz.prog.cellTypes Tryz.prog.depth 32=some [23,23,3,3,3,3,3,3,26,27,30,9,30]:=by kernel_rfl
 rw[hts'] at hts
 have hts:=Option.some.inj hts
 subst hts
 rw[h13] at hsz
 obtain⟨l⟩:=cs
 have hl13:l.length=13:=by simpa using hsz
 match l,hl13 with
 | [c0,c1,c2,c3,c4,c5,c6,c7,c8,c9,c10,c11,c12],_=>
   have at0:=hcell 0 c0 rfl
   have at1:=hcell 1 c1 rfl
   have at8:=hcell 8 c8 rfl
   have at9:=hcell 9 c9 rfl
   have at10:=hcell 10 c10 rfl
   have at12:=hcell 12 c12 rfl
   obtain⟨u0,k0,at0⟩:=at0
   obtain⟨u1,k1,at1⟩:=at1
   obtain⟨u8,k8,at8⟩:=at8
   obtain⟨u9,k9,at9⟩:=at9
   obtain⟨u10,k10,at10⟩:=at10
   obtain⟨u12,k12,at12⟩:=at12
   have k0:=Option.some.inj (show some 23=some u0 from k0)
   have k1:=Option.some.inj (show some 23=some u1 from k1)
   have k8:=Option.some.inj (show some 26=some u8 from k8)
   have k9:=Option.some.inj (show some 27=some u9 from k9)
   have k10:=Option.some.inj (show some 30=some u10 from k10)
   have k12:=Option.some.inj (show some 30=some u12 from k12)
   subst k0 k1 k8 k9 k10 k12
   have hf:DataW.trod enc Tryz.prog W base spare held fuel 32 [c0,c1,c2,c3,c4,c5,c6,c7,c8,c9,c10,c11,c12]=some (d,p):=hf
   obtain⟨xs,n,_,hx,hl,hxl,hg⟩:=DataW.trod_struct hs hf
   have hxl5:xs.length=5:=hxl
   have e25:Tryz.prog.cellsOf 25=5:=by kernel_rfl
   have e29:Tryz.prog.cellsOf 29=5:=by kernel_rfl
   have e30:Tryz.prog.cellsOf 30=1:=by kernel_rfl
   have e9:Tryz.prog.cellsOf 9=1:=by kernel_rfl
   match xs,hxl5,hg with
   | [y0,y1,y2,y3,y4],_,hg=>
     have q0:DataW.trod enc Tryz.prog W base spare held n 25 (([c0,c1,c2,c3,c4,c5,c6,c7,c8,c9,c10,c11,c12].drop 0).take (Tryz.prog.cellsOf 25))=some y0:=hg 0 _ rfl
     have q1:DataW.trod enc Tryz.prog W base spare held n 29 (([c0,c1,c2,c3,c4,c5,c6,c7,c8,c9,c10,c11,c12].drop 5).take (Tryz.prog.cellsOf 29))=some y1:=hg 1 _ rfl
     have q2:DataW.trod enc Tryz.prog W base spare held n 30 (([c0,c1,c2,c3,c4,c5,c6,c7,c8,c9,c10,c11,c12].drop 10).take (Tryz.prog.cellsOf 30))=some y2:=hg 2 _ rfl
     have q3:DataW.trod enc Tryz.prog W base spare held n 9 (([c0,c1,c2,c3,c4,c5,c6,c7,c8,c9,c10,c11,c12].drop 11).take (Tryz.prog.cellsOf 9))=some y3:=hg 3 _ rfl
     have q4:DataW.trod enc Tryz.prog W base spare held n 30 (([c0,c1,c2,c3,c4,c5,c6,c7,c8,c9,c10,c11,c12].drop 12).take (Tryz.prog.cellsOf 30))=some y4:=hg 4 _ rfl
     rw[e25] at q0
     rw[e29] at q1
     rw[e30] at q2 q4
     rw[e9] at q3
     obtain⟨ws,n1,_,_,_,hwl,hw⟩:=DataW.trod_struct Tryz.underlying25 q0
     have hwl5:ws.length=5:=hwl
     obtain⟨zs,n2,_,_,_,hzl,hz⟩:=DataW.trod_struct Tryz.underlying29 q1
     have hzl5:zs.length=5:=hzl
     match ws,hwl5,hw,zs,hzl5,hz with
     | [w0,w1,w2,w3,w4],_,hw,[z0,z1,z2,z3,z4],_,hz=>
       have r0:=fC (c:=c0) (by kernel_rfl) hw 0 rfl rfl rfl
       have r1:=fC (c:=c1) (by kernel_rfl) hw 1 rfl rfl rfl
       have r2:=fC (c:=c2) (by kernel_rfl) hw 2 rfl rfl rfl
       have r3:=fC (c:=c3) (by kernel_rfl) hw 3 rfl rfl rfl
       have r4:=fC (c:=c4) (by kernel_rfl) hw 4 rfl rfl rfl
       have s0:=fC (c:=c5) (by kernel_rfl) hz 0 rfl rfl rfl
       have s1:=fC (c:=c6) (by kernel_rfl) hz 1 rfl rfl rfl
       have s2:=fC (c:=c7) (by kernel_rfl) hz 2 rfl rfl rfl
       have s3:=fC (c:=c8) (by kernel_rfl) hz 3 rfl rfl rfl
       have s4:=fC (c:=c9) (by kernel_rfl) hz 4 rfl rfl rfl
       obtain⟨si,ins,rfl,Ri,Ni⟩:=open_ints Tryz.underlying23 Tryz.underlying2 (by kernel_rfl) at0 r0
       obtain⟨sd,draws,rfl,Rd,Nd⟩:=open_ints Tryz.underlying23 Tryz.underlying2 (by kernel_rfl) at1 r1
       obtain⟨fuel',f2,_,_⟩:=DataW.trod_int Tryz.underlying3 r2
       obtain⟨heap',f3,_,_⟩:=DataW.trod_int Tryz.underlying3 r3
       obtain⟨stack',f4,_,_⟩:=DataW.trod_int Tryz.underlying3 r4
       obtain⟨every',f5,_,_⟩:=DataW.trod_int Tryz.underlying3 s0
       obtain⟨keep',f6,_,_⟩:=DataW.trod_int Tryz.underlying3 s1
       obtain⟨hot',f7,_,_⟩:=DataW.trod_int Tryz.underlying3 s2
       obtain⟨se,evict,rfl,Re,Ne⟩:=open_ints Tryz.underlying26 Tryz.underlying3 (by kernel_rfl) at8 s3
       obtain⟨sa,acts,rfl,Ra⟩:=Qv Tryz.underlying27 at9 s4
       obtain⟨sn,names,rfl,Rn⟩:=open_strs Tryz.underlying30 Tryz.underlying9 (by kernel_rfl) at10 q2
       obtain⟨src,f11,_,_⟩:=DataW.trod_string Tryz.underlying9 q3
       obtain⟨sl,lines,rfl,Rl⟩:=open_strs Tryz.underlying30 Tryz.underlying9 (by kernel_rfl) at12 q4
       simp only[List.cons.injEq,and_true] at f2 f3 f4 f5 f6 f7
       have e11:c11=.string src:=by simpa using f11
       clear f11
       subst f2 f3 f4 f5 f6 f7 e11
       refine⟨⟨si,sd,se,sa,sn,sl⟩,⟨fuel',heap',stack',ins,draws,every',keep',hot',evict,acts,names,src.data.toList,lines⟩,?_,⟨Ri,Rd,Re,Ra,Rn,Rl⟩,⟨Ni,Nd,Ne⟩⟩
       show Value.agg #[si.val,sd.val,.int .i64 fuel',.int .i64 heap',.int .i64 stack',.int .i64 every',.int .i64 keep',.int .i64 hot',se.val,sa.val,sn.val,.string src,sl.val]=Value.agg #[si.val,sd.val,.int .i64 fuel',.int .i64 heap',.int .i64 stack',.int .i64 every',.int .i64 keep',.int .i64 hot',se.val,sa.val,sn.val,.string (B src.data.toList),sl.val]
       rw[← pg src]
end
theorem IK {W:World} (h:W.ShapedOpen Tryz.prog):qy (kM W):=by
 obtain⟨m,hm⟩:=Go.Proofs.cell_of_shapedOpen_int (P:=Tryz.prog) (g:=0) (t:=3) (zero:=#[.int .i64 0]) h (of_decide_eq_true (by kernel_rfl)) (by kernel_rfl) rfl (by kernel_rfl) (by kernel_rfl) Tryz.underlying3
 obtain⟨cs,h1,h2,_⟩:=h.1 0 #[.int .i64 0] 3 (of_decide_eq_true (by kernel_rfl)) (by kernel_rfl)
 refine⟨m,?_⟩
 have h3:W.heap[0]? = some (.cells cs 3 (0,0)):=h1
 rw[xQ h3]
 rw[Lib.cell_of_heap h3] at hm
 have hl:cs.toList.length=1:=by simpa using h2
 obtain⟨l⟩:=cs
 match l,hl with
 | [c],_=>
   have hc:c=.int .i64 m:=by simpa using hm
   rw[hc]
end Go.Proofs.YtgpanefhaiohnaaGreatDoor
namespace Go.Proofs.YtgpanefhaiohnaaGreatDoor
open Go.RowKit
theorem Je {W : World} {d : DataW Unit} (hd : d = Lib.tabData .u64 Lib.pow10Tab) (h : Lib.VarReads Tryz.prog W "internal/strconv.uint64pow10" d) : xI (kM W) := by
 subst hd
 obtain⟨g,t,cs,fuel,p,h1,h2,h3,h4⟩:=h
 obtain rfl:g=1:=Option.some.inj (h1.symm.trans (by kernel_rfl))
 obtain rfl:t=237:=Option.some.inj (h2.symm.trans (by kernel_rfl))
 have hc:=Lib.cells_of_tab Tryz.underlying237 Tryz.underlying86 (by kernel_rfl) (by kernel_rfl) h4
 unfold World.var? at h3
 rw[h1] at h3
 simp only[Option.bind_some] at h3
 split at h3
 · rename_i c T fz hb
   cases h3
   unfold xI
   rw[xQ hb,hc]
 · cases h3
theorem Nj {W : World} {d : DataW Unit} (hsh : W.ShapedOpen Tryz.prog) (hd : d = Lib.tabData .u64 Lib.pow10Tab) (h : Lib.VarReads Tryz.prog W "internal/strconv.uint64pow10" d) (s : ByteArray) :
 Calls Tryz.prog 3 #[.string s] W fun e w'=>e=.returned (.bool true)∧Below W.heap.size W w':=
 Ls s (CO W) (fun _ _ h=>Gg h) (IK hsh) (Je hd h)
theorem JK {W : World} {d : DataW Unit} (hsh : W.ShapedOpen Tryz.prog) (hd : d = Lib.tabData .u64 Lib.pow10Tab) (h : Lib.VarReads Tryz.prog W "internal/strconv.uint64pow10" d) {q : Ss} {x : gu} (R : FX (kM W) q x) (N : Zl x) :
 Calls Tryz.prog 4 #[.agg (bz q x).toArray] W fun e w'=>e=.returned (.bool true)∧Below W.heap.size W w':=
 BC Kw (args:=[.agg (bz q x).toArray]) ⟨q,x,rfl,R,N,IK hsh,Je hd h,rfl⟩ (CO W) (fun _ _ h=>Gg h)
end Go.Proofs.YtgpanefhaiohnaaGreatDoor
