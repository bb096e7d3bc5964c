/- hindcastlaw29: texts joined: Card, NoGo, Clo, LaidH. -/
import Derived.Test.YtgpanefhaiohnaaGreatDoorZbk
namespace Go.Proofs.YtgpanefhaiohnaaGreatDoor
open Go.ChangeShapes Go.WideShapes Go.ChangeAt Go.RowKit
theorem own:ownKnob Tryz.prog.godebug=none:=by kernel_rfl
theorem laidOutB:laidOutB Tryz.prog=true:=by kernel_rfl
theorem RG {H:Type} {enc:TypeId×Value→H} {W W':World} (hb:Below W.heap.size W W'):
 ∀ (ts:List TypeId) (vs:List Value) (ds:List (DataW H)) (ps:List MemPlace),(∀ t∈ts,Tryz.prog.readableRec t=true∧t<Tryz.prog.types.size)→(∀ x∈ps,x.block<W.heap.size)→
 DataW.TrodAll enc Tryz.prog W 0 (fun _=>true) true ts vs ds ps→DataW.TrodAll enc Tryz.prog W' 0 (fun b=>decide (b<W.heap.size)) true ts vs ds ps:=by
 intro ts
 induction ts with
 | nil=>
   intro vs ds ps _ _ h
   obtain⟨rfl,rfl,rfl⟩:=trodAll_nil h
   exact trodAll_mk0
 | cons t ts ih=>
   intro vs ds ps ht hp h
   obtain⟨v,vs',d,ds',p,q,rfl,rfl,rfl,h1,h2⟩:=trodAll_cons h
   have h3:=ht t (by simp)
   exact trodAll_cons_mk (Below.trod laidOutB h3.1 h3.2 h1 hb (fun x hx=>hp x (by simp[hx]))) (ih vs' ds' q (fun u hu=>ht u (by simp[hu])) (fun x hx=>hp x (by simp[hx])) h2)
theorem Ox {H:Type} {enc:TypeId×Value→H} {s:ChangeSpec} {f:Func} {W W':World} {args:Array Value} {ds gs:List (DataW H)} {before:List MemPlace}
 (hv:s.vars=[]) (hres:f.resultTypes.toList=[4]) (hs1:f.resultTypes.size=1) (hts:∀ t∈f.params.toList,Tryz.prog.readableRec t=true∧t<Tryz.prog.types.size)
 (hfn:s.fn H ds={ results:=[.lit (.bool true)],args:=ds })
 (hW:DataW.Whole enc Tryz.prog f.params.toList s.vars false W args.toList ds gs before) (hb:Below W.heap.size W W'):
 s.post enc Tryz.prog f false true false false W args (.bool true) W':=by
 have hW0:=hW
 have hlt:=hW.lt
 obtain⟨p,q,hA,hV,hpq,hfz,hnd⟩:=hW
 rw[hv] at hV
 obtain⟨rfl,rfl⟩:=trodVars_none hV
 rw[List.append_nil] at hpq
 subst hpq
 have e:s.fn H (ds++[])={ results:=[.lit (.bool true)],args:=ds }:=by rw[List.append_nil];exact hfn
 refine⟨ds,[],before,[],before,[],hW0,?_,?_,?_,hb.frame _,fun h=>by cases h⟩
 · rw[e,hres,hs1]
   exact trodAll_mk1 (shut_bool Tryz.underlying4 true)
 · rw[e]
   exact RG hb _ _ _ _ hts hlt hA
 · rw[e,hv];rfl
end Go.Proofs.YtgpanefhaiohnaaGreatDoor
namespace Go.Proofs.YtgpanefhaiohnaaGreatDoor
theorem Wx {P:Program} (hn:(P.funcs.all fun fn=>!fn.goes)=true) (f:FuncId):P.goes f=false:=by
 have h:∀ g:Nat,(P.funcs[g]?).any Func.goes=false:=fun g=>by
  cases e:P.funcs[g]? with
  | none=>rfl
  | some fn=>
    obtain⟨hl,he⟩:=Array.getElem?_eq_some_iff.1 e
    have:=Array.all_eq_true.1 hn g hl
    rw[he] at this
    simpa using this
 have h1:((P.closure f).any fun g=>(P.funcs[g]?).any Func.goes)=false:=by
  rw[List.any_eq_false]
  intro g _
  rw[h g]
  simp
 have h2:P.funcs.any Func.goes=false:=by
  rw[Array.any_eq_false]
  intro i hi
  have:=h i
  rw[Array.getElem?_eq_getElem hi] at this
  simpa using this
 unfold Program.goes
 rw[h1,h2,Bool.and_false,Bool.or_false]
theorem WU:(Tryz.prog.funcs.all fun fn=>!fn.goes)=true:=by kernel_rfl
theorem Qh {P:Program} (hn:(P.funcs.all fun fn=>!fn.goes)=true) {c:OpenClaim} (h:c.start=.entering):false=c.goesBy P:=by
 unfold OpenClaim.goesBy Program.goesAt Program.goesFrom
 rw[h]
 have e:∀ o:Option FuncId,o.any P.goes=false:=fun o=>by
  cases o with
  | none=>rfl
  | some f=>exact Wx hn f
 rw[e]
 rfl
theorem Il {c:OpenClaim} (h:c.start=.entering):false=c.goesBy Tryz.prog:=Qh WU h
end Go.Proofs.YtgpanefhaiohnaaGreatDoor
namespace Go.Proofs.YtgpanefhaiohnaaGreatDoor
def RY:List FuncId:=[3,5,13,6,14,35,59,92,154,155,219,93,156,63,96,158,220,159,160,161,221,15,16,36,60,37,38,61,94,157,95,39,24,48,66,
 97,98,163,162,164,99,100,165,166,222,223,34,52,72,107,168,224,306,307,308,225,226,227,309,228,229,146,147,149,150,216,
 152,217,214,303,304,230,310,392,27,137,47,65,461,311,231,312,314,315,393,313,169,170,171,172,108,173,174,232,238,317,234,
 233,316,235,236,239,237,175,240,318,203,293,370,445,480,372,496,497,371,394,73,109,176,241,242,319,395,243,245,320,244,
 246,322,324,397,321,323,396,325,326,177,178,179,183,247,248,249,180,251,250,327,252,328,339,406,407,408,463,398,462,399,
 400,181,253,255,254,329,182,184,256,257,330,401,402,464,331,110,111,114,185,258,332,259,113,333,403,337,260,334,335,404,
 336,405,261,262,112,53,55,54,56,74,115,117,118,116,186,119,188,268,269,340,270,409,411,271,465,491,410,187,263,338,264,
 265,266,267,207,120,189,190,272,341,274,273,275,342,413,412,416,419,468,492,415,467,466,414,417,343,345,344,418,346,420,
 421,422,469,493,512,470,471,472,473,474,423,475,476,477,388,431,459,424,353,380,450,276,347,425,426,430,427,49,386,458,
 387,428,429,192,277,278,348,279,349,350,351,432,478,494,513,514,352,433,354,434,212,300,385,26,23,389,138,83,390,460,280,
 355,435,191,281,356,436,357,358,437,438,359,439,360,440,361,75,121,76,122,124,125,197,290,365,443,366,367,368,123,193,
 282,362,283,194,284,285,363,441,195,286,287,364,442,196,288,289,58,45,87,148,151,153,218,305,86,145,215,88,89,90,91,57,
 77,78,84,139,204,205,206,126,127,128,129,198,291,140,199,292,369,208,294,373,374,446,447,481,498,499,375,448,482,500,515,
 501,516,531,540,517,518,532,519,533,534,483,484,485,486,487,488,502,503,520,504,521,505,522,523,506,525,524,526,527,535,
 528,536,537,538,539,295,376,444,479,495,130,131,200,143,210,134,202,297,377,449,378,379,298,135,381,451,489,490,507,508,
 509,510,529,530,511,452,213,302,301,391,453,454,299,382,455,383,456,384,457,211,201,132,79,133,80,136,81,82,85,141,142,
 209,296,144,7,17,40,18,41,62,68,70,106,71,42,29,50,67,101,102,103,104,105,167,8,19,20,9,21,43,44,46,64,22,25]
def PG:List FuncId:=[4,10,5,13,6,14,35,59,92,154,155,219,93,156,63,96,158,220,159,160,161,221,15,16,36,60,37,38,61,94,157,95,39,24,48,
 66,97,98,163,162,164,99,100,165,166,222,223,34,52,72,107,168,224,306,307,308,225,226,227,309,228,229,146,147,149,150,
 216,152,217,214,303,304,230,310,392,27,137,47,65,461,311,231,312,314,315,393,313,169,170,171,172,108,173,174,232,238,317,
 234,233,316,235,236,239,237,175,240,318,203,293,370,445,480,372,496,497,371,394,73,109,176,241,242,319,395,243,245,320,
 244,246,322,324,397,321,323,396,325,326,177,178,179,183,247,248,249,180,251,250,327,252,328,339,406,407,408,463,398,462,
 399,400,181,253,255,254,329,182,184,256,257,330,401,402,464,331,110,111,114,185,258,332,259,113,333,403,337,260,334,335,
 404,336,405,261,262,112,53,55,54,56,74,115,117,118,116,186,119,188,268,269,340,270,409,411,271,465,491,410,187,263,338,
 264,265,266,267,207,120,189,190,272,341,274,273,275,342,413,412,416,419,468,492,415,467,466,414,417,343,345,344,418,346,
 420,421,422,469,493,512,470,471,472,473,474,423,475,476,477,388,431,459,424,353,380,450,276,347,425,426,430,427,49,386,
 458,387,428,429,192,277,278,348,279,349,350,351,432,478,494,513,514,352,433,354,434,212,300,385,26,23,389,138,83,390,460,
 280,355,435,191,281,356,436,357,358,437,438,359,439,360,440,361,75,121,76,122,124,125,197,290,365,443,366,367,368,123,
 193,282,362,283,194,284,285,363,441,195,286,287,364,442,196,288,289,58,45,87,148,151,153,218,305,86,145,215,88,89,90,91,
 57,77,78,84,139,204,205,206,126,127,128,129,198,291,140,199,292,369,208,294,373,374,446,447,481,498,499,375,448,482,500,
 515,501,516,531,540,517,518,532,519,533,534,483,484,485,486,487,488,502,503,520,504,521,505,522,523,506,525,524,526,527,
 535,528,536,537,538,539,295,376,444,479,495,130,131,200,143,210,134,202,297,377,449,378,379,298,135,381,451,489,490,507,
 508,509,510,529,530,511,452,213,302,301,391,453,454,299,382,455,383,456,384,457,211,201,132,79,133,80,136,81,82,85,141,
 142,209,296,144,9,21,43,44,46,64,22,25,11,28,29,50,67,101,102,103,104,62,68,70,106,71,105,167,30,17,40,12,31,32,33,
 51,69,8,19,20]
set_option maxRecDepth 100000 in
theorem uJ:Tryz.prog.closure 3=RY:=by kernel_rfl
set_option maxRecDepth 100000 in
theorem qQ:Tryz.prog.closure 4=PG:=by kernel_rfl
theorem Jd {P:Program} {f:FuncId} {L:List FuncId} (h:P.closure f=L):P.inPlace f=P.inPlaceOf L:=by
 unfold Program.inPlace Program.inPlaceOf
 rw[h]
theorem IQ {P:Program} {f:FuncId} {L:List FuncId} (h:P.closure f=L):P.varsNamed f=P.varsOf L:=by
 unfold Program.varsNamed Program.varsOf
 rw[h]
def Yq (P:Program) (L:List FuncId):Bool:=L.any fun g=>(P.funcs[g]?).any fun fn=>match fn.body with | some c=>c.unfollowed | none=>entryCalls fn
theorem Vz {P:Program} {f:FuncId} {L:List FuncId} (h:P.closure f=L):P.unfollowed f=Yq P L:=by
 unfold Program.unfollowed Yq
 rw[h]
 rfl
theorem UO {P:Program} {f:FuncId} (h:P.unfollowed f=true):P.recurses f=true:=by
 unfold Program.recurses
 rw[h,Bool.true_or]
theorem yV:true=Tryz.pinned.checked.prog.looks []:=by kernel_rfl
end Go.Proofs.YtgpanefhaiohnaaGreatDoor
namespace Go.Proofs.YtgpanefhaiohnaaGreatDoor
open Go.ChangeShapes Go.WideShapes Go.ChangeAt Go.RowKit
def NS:DataW Unit→Value
 | .lit (.int k n)=>.int k n
 | _=>undef
def YG:DataW Unit→List Value
 | .agg l=>l.map NS
 | d=>[NS d]
def oG:DataW Unit→Array Value
 | .agg l=>(l.flatMap YG).toArray
 | _=>#[]
def putCells (c:Array Value):Obj→Obj
 | .cells _ t frozen=>.cells c t frozen
 | o=>o
noncomputable def laidWorld (os:Os):World:=
 { World.holding Tryz.prog os ⟨#[],#[],[]⟩ with heap:=(((((World.holding Tryz.prog os ⟨#[],#[],[]⟩).heap.modify 4 (putCells (oG Rows.laid_math_bits_deBruijn32tab))).modify 5 (putCells (oG Rows.laid_math_bits_deBruijn64tab))).modify 1 (putCells (oG Rows.laid_internal_strconv_uint64pow10))).modify 2 (putCells (oG Rows.laid_unicode_utf8_first))).modify 3 (putCells (oG Rows.laid_unicode_utf8_acceptRanges)) }
end Go.Proofs.YtgpanefhaiohnaaGreatDoor
