/- hindcastlaw07: texts joined: NumG, NumH, NumI, NumJ, LexA, LexB, LexC, LexD, LexE, LexF, LexGI, LexH, Shelf, LexI, LexJ, LexK, LexL, LexM. -/
import Derived.Test.YtllbpdllkkcajaaGreatDoorPed
namespace Go.Proofs.YtllbpdllkkcajaaGreatDoor
open Go.RowKit
theorem wrap_u64 (x:Int):IntKind.u64.wrap x=x % 18446744073709551616:=by
 simp[IntKind.wrap,IntKind.signed,IntKind.bits]
abbrev dv (a b c d e f g h:Int):Value:=.agg #[.int .i64 a,.int .i64 b,.int .i64 c,.int .i64 d,.int .i64 e,.int .i64 f,.int .i64 g,.int .i64 h]
abbrev du (u:Int):Value:=dv (u % 256) (u / 256 % 256) (u / 256 / 256 % 256) (u / 256 / 256 / 256 % 256) (u / 256 / 256 / 256 / 256 % 256) (u / 256 / 256 / 256 / 256 / 256 % 256) (u / 256 / 256 / 256 / 256 / 256 / 256 % 256) (u / 256 / 256 / 256 / 256 / 256 / 256 / 256 % 256)
set_option maxHeartbeats 2000000 in
set_option maxRecDepth 100000 in
theorem Zk (n u:Int) (hu:IntKind.u64.wrap n=u) (h0:0<=u) (h1:u<=18446744073709551615) (w:World):
 Calls Tryz.prog 97 #[.int .i64 n] w fun e w'=>e=.returned (du u)/\Below w.heap.size w w':=by
 go_enter Tryz.func97,Tryz.ntmps97
 go_wp2
 refine wp_loop_rounds 9 ?_
 repeat (rw[rounds_succ];go_wp2)
 exact bodyPost_ret (v:=du u) (by simp[results,Tryz.results97,go_sem]) rfl ⟨rfl,(by (repeat (first | (with_reducible exact Below.refl _ _) | (with_reducible assumption) | (with_reducible refine Below.drew ?_) | (with_reducible refine below_draws ?_ _) | ((with_reducible refine Below.setCell ?_ ?_ _);rotate_left;(first | (with_reducible exact Nat.le_refl _) | (focus (simp;done)) | (focus (simp;omega)) | omega)) | ((with_reducible refine Below.alloc ?_ ?_ _);rotate_left;(first | (with_reducible exact Nat.le_refl _) | (focus (simp;done)) | (focus (simp;omega)) | omega)))))⟩
def Il (a b c d e f g h:Int):Int:=a+256*(b+256*(c+256*(d+256*(e+256*(f+256*(g+256*h))))))
theorem Yc (a b c d e f g h:Int):((((((h*256+g)*256+f)*256+e)*256+d)*256+c)*256+b)*256+a=Il a b c d e f g h:=by unfold Il;omega
set_option maxHeartbeats 2000000 in
set_option maxRecDepth 100000 in
theorem vW (a b c d e f g h:Int) (a0:0<=a) (a1:a<=255) (b0:0<=b) (b1:b<=255) (c0:0<=c) (c1:c<=255) (d0:0<=d) (d1:d<=255) (e0:0<=e) (e1:e<=255) (f0:0<=f) (f1:f<=255) (g0:0<=g) (g1:g<=255) (h0:0<=h) (h1:h<=255) (w:World):
 Calls Tryz.prog 100 #[dv a b c d e f g h] w fun e' w'=>e'=.returned (.int .i64 (wrap64 (Il a b c d e f g h)))/\Below w.heap.size w w':=by
 go_enter Tryz.func100,Tryz.ntmps100
 go_wp2
 refine wp_loop_rounds 9 ?_
 repeat (rw[rounds_succ];go_wp2)
 go_ret
 exact⟨YV (by rw[<- Yc]),(by (repeat (first | (with_reducible exact Below.refl _ _) | (with_reducible assumption) | (with_reducible refine Below.drew ?_) | (with_reducible refine below_draws ?_ _) | ((with_reducible refine Below.setCell ?_ ?_ _);rotate_left;(first | (with_reducible exact Nat.le_refl _) | (focus (simp;done)) | (focus (simp;omega)) | omega)) | ((with_reducible refine Below.alloc ?_ ?_ _);rotate_left;(first | (with_reducible exact Nat.le_refl _) | (focus (simp;done)) | (focus (simp;omega)) | omega)))))⟩
set_option maxHeartbeats 2000000 in
set_option maxRecDepth 100000 in
theorem QW (a b c d e f g h:Int) (a0:0<=a) (a1:a<=255) (b0:0<=b) (b1:b<=255) (c0:0<=c) (c1:c<=255) (d0:0<=d) (d1:d<=255) (e0:0<=e) (e1:e<=255) (f0:0<=f) (f1:f<=255) (g0:0<=g) (g1:g<=255) (h0:0<=h) (h1:h<=255) (w:World):
 Calls Tryz.prog 134 #[dv a b c d e f g h,dv 1 0 0 0 0 0 0 0] w fun e' w'=>e'=.returned (dv ((a+1) % 256) ((b+((a+1) / 256)) % 256) ((c+((b+((a+1) / 256)) / 256)) % 256) ((d+((c+((b+((a+1) / 256)) / 256)) / 256)) % 256) ((e+((d+((c+((b+((a+1) / 256)) / 256)) / 256)) / 256)) % 256) ((f+((e+((d+((c+((b+((a+1) / 256)) / 256)) / 256)) / 256)) / 256)) % 256) ((g+((f+((e+((d+((c+((b+((a+1) / 256)) / 256)) / 256)) / 256)) / 256)) / 256)) % 256) ((h+((g+((f+((e+((d+((c+((b+((a+1) / 256)) / 256)) / 256)) / 256)) / 256)) / 256)) / 256)) % 256))/\Below w.heap.size w w':=by
 go_enter Tryz.func134,Tryz.ntmps134
 go_wp2
 refine wp_loop_rounds 9 ?_
 repeat (rw[rounds_succ];go_wp2;try (go_quiet (fail);go_wp2))
 refine bodyPost_ret (v:=dv ((a+1) % 256) ((b+((a+1) / 256)) % 256) ((c+((b+((a+1) / 256)) / 256)) % 256) ((d+((c+((b+((a+1) / 256)) / 256)) / 256)) % 256) ((e+((d+((c+((b+((a+1) / 256)) / 256)) / 256)) / 256)) % 256) ((f+((e+((d+((c+((b+((a+1) / 256)) / 256)) / 256)) / 256)) / 256)) % 256) ((g+((f+((e+((d+((c+((b+((a+1) / 256)) / 256)) / 256)) / 256)) / 256)) / 256)) % 256) ((h+((g+((f+((e+((d+((c+((b+((a+1) / 256)) / 256)) / 256)) / 256)) / 256)) / 256)) / 256)) % 256)) (by simp[results,Tryz.results134,go_sem]) rfl ⟨rfl,?_⟩
 (repeat (first | (with_reducible exact Below.refl _ _) | (with_reducible assumption) | (with_reducible refine Below.drew ?_) | (with_reducible refine below_draws ?_ _) | ((with_reducible refine Below.setCell ?_ ?_ _);rotate_left;(first | (with_reducible exact Nat.le_refl _) | (focus (simp;done)) | (focus (simp;omega)) | omega)) | ((with_reducible refine Below.alloc ?_ ?_ _);rotate_left;(first | (with_reducible exact Nat.le_refl _) | (focus (simp;done)) | (focus (simp;omega)) | omega))))
set_option maxHeartbeats 2000000 in
set_option maxRecDepth 100000 in
theorem KG (a b c d e f g h:Int) (a0:0<=a) (a1:a<=255) (b0:0<=b) (b1:b<=255) (c0:0<=c) (c1:c<=255) (d0:0<=d) (d1:d<=255) (e0:0<=e) (e1:e<=255) (f0:0<=f) (f1:f<=255) (g0:0<=g) (g1:g<=255) (h0:0<=h) (h1:h<=255) (w:World):
 Calls Tryz.prog 99 #[dv a b c d e f g h] w fun e' w'=>e'=.returned (dv ((255 - a+1) % 256) ((255 - b+((255 - a+1) / 256)) % 256) ((255 - c+((255 - b+((255 - a+1) / 256)) / 256)) % 256) ((255 - d+((255 - c+((255 - b+((255 - a+1) / 256)) / 256)) / 256)) % 256) ((255 - e+((255 - d+((255 - c+((255 - b+((255 - a+1) / 256)) / 256)) / 256)) / 256)) % 256) ((255 - f+((255 - e+((255 - d+((255 - c+((255 - b+((255 - a+1) / 256)) / 256)) / 256)) / 256)) / 256)) % 256) ((255 - g+((255 - f+((255 - e+((255 - d+((255 - c+((255 - b+((255 - a+1) / 256)) / 256)) / 256)) / 256)) / 256)) / 256)) % 256) ((255 - h+((255 - g+((255 - f+((255 - e+((255 - d+((255 - c+((255 - b+((255 - a+1) / 256)) / 256)) / 256)) / 256)) / 256)) / 256)) / 256)) % 256))/\Below w.heap.size w w':=by
 go_enter Tryz.func99,Tryz.ntmps99
 go_wp2
 refine wp_loop_rounds 9 ?_
 repeat (rw[rounds_succ];go_wp2_with fail)
 refine (QW (255 - a) (255 - b) (255 - c) (255 - d) (255 - e) (255 - f) (255 - g) (255 - h) (by omega) (by omega) (by omega) (by omega) (by omega) (by omega) (by omega) (by omega) (by omega) (by omega) (by omega) (by omega) (by omega) (by omega) (by omega) (by omega) _).mono ?_;rintro e' w1 ⟨rfl,hb1⟩;obtain⟨hc1,hf1⟩:=MB hb1;have hz1:w.heap.size+1<w1.heap.size:=by have:=hb1.size;simp at this;omega
 go_wp2
 have q1:Below w.heap.size w w1:=Below.trans (by (repeat (first | (with_reducible exact Below.refl _ _) | (with_reducible assumption) | (with_reducible refine Below.drew ?_) | (with_reducible refine below_draws ?_ _) | ((with_reducible refine Below.setCell ?_ ?_ _);rotate_left;(first | (with_reducible exact Nat.le_refl _) | (focus (simp;done)) | (focus (simp;omega)) | omega)) | ((with_reducible refine Below.alloc ?_ ?_ _);rotate_left;(first | (with_reducible exact Nat.le_refl _) | (focus (simp;done)) | (focus (simp;omega)) | omega))))) (hb1.mono (by simp;omega));refine bodyPost_ret (v:=dv ((255 - a+1) % 256) ((255 - b+((255 - a+1) / 256)) % 256) ((255 - c+((255 - b+((255 - a+1) / 256)) / 256)) % 256) ((255 - d+((255 - c+((255 - b+((255 - a+1) / 256)) / 256)) / 256)) % 256) ((255 - e+((255 - d+((255 - c+((255 - b+((255 - a+1) / 256)) / 256)) / 256)) / 256)) % 256) ((255 - f+((255 - e+((255 - d+((255 - c+((255 - b+((255 - a+1) / 256)) / 256)) / 256)) / 256)) / 256)) % 256) ((255 - g+((255 - f+((255 - e+((255 - d+((255 - c+((255 - b+((255 - a+1) / 256)) / 256)) / 256)) / 256)) / 256)) / 256)) % 256) ((255 - h+((255 - g+((255 - f+((255 - e+((255 - d+((255 - c+((255 - b+((255 - a+1) / 256)) / 256)) / 256)) / 256)) / 256)) / 256)) / 256)) % 256)) (by simp[results,Tryz.results99,go_sem,hc1]) rfl ⟨rfl,?_⟩
 (repeat (first | (with_reducible exact Below.refl _ _) | (with_reducible assumption) | (with_reducible refine Below.drew ?_) | (with_reducible refine below_draws ?_ _) | ((with_reducible refine Below.setCell ?_ ?_ _);rotate_left;(first | (with_reducible exact Nat.le_refl _) | (focus (simp;done)) | (focus (simp;omega)) | omega)) | ((with_reducible refine Below.alloc ?_ ?_ _);rotate_left;(first | (with_reducible exact Nat.le_refl _) | (focus (simp;done)) | (focus (simp;omega)) | omega))))
theorem Ou (u:Int) (h0:0<=u) (h1:u<=18446744073709551615):Il (u % 256) (u / 256 % 256) (u / 256 / 256 % 256) (u / 256 / 256 / 256 % 256) (u / 256 / 256 / 256 / 256 % 256) (u / 256 / 256 / 256 / 256 / 256 % 256) (u / 256 / 256 / 256 / 256 / 256 / 256 % 256) (u / 256 / 256 / 256 / 256 / 256 / 256 / 256 % 256)=u:=by
 unfold Il;omega
theorem KP (a b c d e f g h:Int) (_a0:0<=a) (_a1:a<=255) (_b0:0<=b) (_b1:b<=255) (_c0:0<=c) (_c1:c<=255) (_d0:0<=d) (_d1:d<=255) (_e0:0<=e) (_e1:e<=255) (_f0:0<=f) (_f1:f<=255) (_g0:0<=g) (_g1:g<=255) (_h0:0<=h) (_h1:h<=255):Il ((255 - a+1) % 256) ((255 - b+((255 - a+1) / 256)) % 256) ((255 - c+((255 - b+((255 - a+1) / 256)) / 256)) % 256) ((255 - d+((255 - c+((255 - b+((255 - a+1) / 256)) / 256)) / 256)) % 256) ((255 - e+((255 - d+((255 - c+((255 - b+((255 - a+1) / 256)) / 256)) / 256)) / 256)) % 256) ((255 - f+((255 - e+((255 - d+((255 - c+((255 - b+((255 - a+1) / 256)) / 256)) / 256)) / 256)) / 256)) % 256) ((255 - g+((255 - f+((255 - e+((255 - d+((255 - c+((255 - b+((255 - a+1) / 256)) / 256)) / 256)) / 256)) / 256)) / 256)) % 256) ((255 - h+((255 - g+((255 - f+((255 - e+((255 - d+((255 - c+((255 - b+((255 - a+1) / 256)) / 256)) / 256)) / 256)) / 256)) / 256)) / 256)) % 256)=(18446744073709551616 - Il a b c d e f g h) % 18446744073709551616:=by
 unfold Il;omega
section
attribute [local go_sem] Px dW fF gm kC rX
def kV (l:List UInt8):Nat:=l.foldl (fun n c=>10*n+(c.toNat - 48)) 0
def lM (c:UInt8):Bool:=decide (48<=c.toNat)&&decide (c.toNat<=57)
theorem CV (l:List UInt8) (c:UInt8):kV (l++[c])=10*kV l+(c.toNat - 48):=by simp[kV]
theorem take_snoc (d:List UInt8) (k:Nat) (h:k<d.length):d.take (k+1)=d.take k++[d[k]]:=by
 rw[List.take_succ_eq_append_getElem h]
theorem mF (d:List UInt8) (k:Nat) (h:k<d.length):bt d k=(d[k].toNat:Int):=by
 simp[bt,h]
def qI (neg:Bool) (d:List UInt8):Int×Int:=
 if d.all lM then
  (if neg then (if kV d<=9223372036854775808 then (-(kV d:Int),0) else (0,14)) else (if kV d<9223372036854775808 then ((kV d:Int),0) else (0,14)))
 else (0,2)
def pv (l:List UInt8):Int×Int:=
 match l with
 | []=>(0,2)
 | c::d=>if c=45 then (if d=[]\/d.head? = some 48 then (0,2) else qI true d) else (if c=48/\d≠[] then (0,2) else qI false (c::d))
structure EU (d:List UInt8) (k x:Nat) (o:Bool):Prop where
 dig:(d.take k).all lM=true
 le:x<=9223372036854775808
 eq:o=false->x=kV (d.take k)
 big:o=true->9223372036854775808<kV (d.take k)
theorem zh (d:List UInt8):EU d 0 0 false:=⟨by simp,by omega,by simp[kV],by simp⟩
theorem tV {d:List UInt8} {k:Nat} (hk:k<d.length) (h:bt d k<48\/57<bt d k) (neg:Bool):qI neg d=(0,2):=by
 have hn:¬ (d.all lM=true):=by
  rw[List.all_eq_true];intro hall;have:=hall d[k] (List.getElem_mem hk);rw[mF d k hk] at h;simp[lM] at this;omega
 unfold qI;rw[if_neg hn]
theorem IB {d:List UInt8} {k:Nat} (hk:k<d.length) (h0:48<=bt d k) (h1:bt d k<=57) (h:(d.take k).all lM=true):(d.take (k+1)).all lM=true:=by
 rw[take_snoc d k hk,List.all_append,h];rw[mF d k hk] at h0 h1;simp[lM];omega
theorem Cm {d:List UInt8} {k:Nat} (hk:k<d.length) (h0:48<=bt d k):(kV (d.take (k+1)):Int)=10*(kV (d.take k):Int)+(bt d k - 48):=by
 rw[take_snoc d k hk,CV,mF d k hk];rw[mF d k hk] at h0;omega
theorem Cj {d:List UInt8} {k x:Nat} {o:Bool} (hk:k<d.length) (h0:48<=bt d k) (h1:bt d k<=57) (hi:EU d k x o) (ht:-(x:Int)<(-9223372036854775808+(bt d k - 48)).tdiv 10):EU d (k+1) x true:=by
 have hv:=Cm hk h0;refine⟨IB hk h0 h1 hi.dig,hi.le,by simp,fun _=>?_⟩;cases o with
 | true=>have:=hi.big rfl;omega
 | false=>
   have:=hi.eq rfl;have e:(-9223372036854775808+(bt d k - 48)).tdiv 10=-((9223372036854775808 - (bt d k - 48)) / 10):=by
    rw[show (-9223372036854775808+(bt d k - 48))=-(9223372036854775808 - (bt d k - 48)) by omega,Int.neg_tdiv,Int.tdiv_eq_ediv_of_nonneg (by omega)]
   rw[e] at ht;omega
theorem Ci {d:List UInt8} {k x:Nat} {o:Bool} (hk:k<d.length) (h0:48<=bt d k) (h1:bt d k<=57) (hi:EU d k x o) (ht:(-9223372036854775808+(bt d k - 48)).tdiv 10<=-(x:Int)):
 ∃ y:Nat,wrap64 (wrap64 (10 * -(x:Int)) - (bt d k - 48))=-(y:Int)/\EU d (k+1) y o:=by
 have hv:=Cm hk h0;have e:(-9223372036854775808+(bt d k - 48)).tdiv 10=-((9223372036854775808 - (bt d k - 48)) / 10):=by
  rw[show (-9223372036854775808+(bt d k - 48))=-(9223372036854775808 - (bt d k - 48)) by omega,Int.neg_tdiv,Int.tdiv_eq_ediv_of_nonneg (by omega)]
 rw[e] at ht;have hle:=hi.le;refine⟨(10*(x:Int)+(bt d k - 48)).toNat,?_,IB hk h0 h1 hi.dig,by omega,fun h=>?_,fun h=>?_⟩
 . unfold wrap64;omega
 . have:=hi.eq h;omega
 . have:=hi.big h;omega
theorem mZ {d:List UInt8} {k x:Nat} {o:Bool} (hk:¬ k<d.length) (hi:EU d k x o):d.all lM=true/\(o=false->x=kV d)/\(o=true->9223372036854775808<kV d):=by
 have h:=hi.dig;have h2:=hi.eq;have h3:=hi.big;rw[List.take_of_length_le (by omega)] at h h2 h3;exact⟨h,h2,h3⟩
theorem iG {p:Int×Int} {a b:Int} (h:p=(a,b)):Ending.returned (.tuple #[.int .i64 a,.int .i64 b])=.returned (.tuple #[.int .i64 p.1,.int .i64 p.2]):=by rw[h]
set_option maxHeartbeats 1000000 in
theorem KL (d:List UInt8) (w:World) (hl:d.length<1000000) (hne:¬ d=[]) (h0:(bt d 0==48)=false):
 Calls Tryz.prog 120 #[.string (B (45::d))] w fun e w'=>e=.returned (.tuple #[.int .i64 (qI true d).1,.int .i64 (qI true d).2])/\w=w':=by
 have hne':d.isEmpty=false:=by simp[hne]
 have hpos:0<d.length:=List.length_pos_iff.2 hne;have hb:bt (45::d) 0=45:=by simp[bt]
 go_enter Tryz.func120,Tryz.ntmps120
 go_wp2_with fail
 go_loop [6,7,39] (fun n ov i=>∃ (k x:Nat) (o:Bool),k<=d.length/\x<=9223372036854775808/\EU d k x o/\i=.int .i64 k/\n=.int .i64 (-(x:Int))/\ov=.bool o) (fun _ _ i=>d.length - (intOf i).toNat)
 case atStart=>exact⟨0,0,false,by omega,by omega,zh d,rfl,rfl,rfl⟩
 case round=>
  obtain⟨k,x,o,hk,hx,hi,rfl,rfl,rfl⟩:=hrel;have hb0:=Zi d k;have hb1:=Zh d k
  go_wp2
  . have hlt:k<d.length:=by assumption
    go_ret2
    exact⟨iG (tV hlt (by omega) true),rfl⟩
  . have hlt:k<d.length:=by assumption
    go_round
    case rel=>exact⟨k+1,x,true,by omega,hx,Cj hlt (by omega) (by omega) hi (by assumption),by go_num,rfl,rfl⟩
    case measure=>simp[intOf];omega
  . have hlt:k<d.length:=by assumption
    obtain⟨y,hy,hi'⟩:=Ci hlt (by omega) (by omega) hi (by assumption)
    go_round
    case rel=>exact⟨k+1,y,o,by omega,hi'.le,hi',by go_num,by rw[hy],rfl⟩
    case measure=>simp[intOf];omega
  . have hlt:k<d.length:=by assumption
    go_ret2
    exact⟨iG (tV hlt (by omega) true),rfl⟩
  . have hlt:¬ k<d.length:=by assumption
    obtain⟨e1,e2,e3⟩:=mZ hlt hi;have:=e3 (by assumption)
    go_ret2
    exact⟨iG (by unfold qI;rw[if_pos e1,if_pos rfl,if_neg (by omega)]),rfl⟩
  . have hlt:¬ k<d.length:=by assumption
    obtain⟨e1,e2,e3⟩:=mZ hlt hi;have ho:¬ o=true:=by assumption
    have:=e2 (by simpa using ho)
    go_ret2
    exact⟨iG (by unfold qI;rw[if_pos e1,if_pos rfl,if_pos (by omega)];congr 1;omega),rfl⟩
  . have hlt:¬ k<d.length:=by assumption
    obtain⟨e1,e2,e3⟩:=mZ hlt hi;have ho:¬ o=true:=by assumption
    have:=e2 (by simpa using ho)
    go_ret2
    exact⟨iG (by unfold qI;rw[if_pos e1,if_pos rfl,if_pos (by omega)];congr 1;omega),rfl⟩
set_option maxHeartbeats 1000000 in
theorem KO (d:List UInt8) (w:World) (hl:d.length<1000000) (hne:¬ d=[]) (h45:(bt d 0==45)=false) (h0:(bt d 0==48)=false):
 Calls Tryz.prog 120 #[.string (B d)] w fun e w'=>e=.returned (.tuple #[.int .i64 (qI false d).1,.int .i64 (qI false d).2])/\w=w':=by
 have hne':d.isEmpty=false:=by simp[hne]
 have hpos:0<d.length:=List.length_pos_iff.2 hne
 go_enter Tryz.func120,Tryz.ntmps120
 go_wp2_with fail
 go_loop [6,7,39] (fun n ov i=>∃ (k x:Nat) (o:Bool),k<=d.length/\x<=9223372036854775808/\EU d k x o/\i=.int .i64 k/\n=.int .i64 (-(x:Int))/\ov=.bool o) (fun _ _ i=>d.length - (intOf i).toNat)
 case atStart=>exact⟨0,0,false,by omega,by omega,zh d,rfl,rfl,rfl⟩
 case round=>
  obtain⟨k,x,o,hk,hx,hi,rfl,rfl,rfl⟩:=hrel;have hb0:=Zi d k;have hb1:=Zh d k
  go_wp2
  . have hlt:k<d.length:=by assumption
    go_ret2
    exact⟨iG (tV hlt (by omega) false),rfl⟩
  . have hlt:k<d.length:=by assumption
    go_round
    case rel=>exact⟨k+1,x,true,by omega,hx,Cj hlt (by omega) (by omega) hi (by assumption),by go_num,rfl,rfl⟩
    case measure=>simp[intOf];omega
  . have hlt:k<d.length:=by assumption
    obtain⟨y,hy,hi'⟩:=Ci hlt (by omega) (by omega) hi (by assumption)
    go_round
    case rel=>exact⟨k+1,y,o,by omega,hi'.le,hi',by go_num,by rw[hy],rfl⟩
    case measure=>simp[intOf];omega
  . have hlt:k<d.length:=by assumption
    go_ret2
    exact⟨iG (tV hlt (by omega) false),rfl⟩
  . have hlt:¬ k<d.length:=by assumption
    obtain⟨e1,e2,e3⟩:=mZ hlt hi;have:=e3 (by assumption)
    go_ret2
    exact⟨iG (by unfold qI;rw[if_pos e1,if_neg (by decide),if_neg (by omega)]),rfl⟩
  . have hlt:¬ k<d.length:=by assumption
    obtain⟨e1,e2,e3⟩:=mZ hlt hi;have ho:¬ o=true:=by assumption
    have:=e2 (by simpa using ho)
    go_ret2
    exact⟨iG (by unfold qI;rw[if_pos e1,if_neg (by decide),if_neg (by omega)]),rfl⟩
  . have hlt:¬ k<d.length:=by assumption
    obtain⟨e1,e2,e3⟩:=mZ hlt hi;have ho:¬ o=true:=by assumption
    have:=e2 (by simpa using ho)
    go_ret2
    exact⟨iG (by unfold qI;rw[if_pos e1,if_neg (by decide),if_pos (by omega)];congr 1;omega),rfl⟩
set_option maxHeartbeats 1000000 in
theorem Ik (w:World):
 Calls Tryz.prog 120 #[.string (B [48])] w fun e w'=>e=.returned (.tuple #[.int .i64 0,.int .i64 0])/\w=w':=by
 have hb:bt [48] 0=48:=by simp[bt]
 go_enter Tryz.func120,Tryz.ntmps120
 go_wp2
 refine wp_loop_rounds 2 ?_
 repeat (rw[rounds_succ];go_wp2)
 go_ret2
 exact⟨rfl,rfl⟩
set_option maxHeartbeats 1000000 in
theorem KN (w:World):
 Calls Tryz.prog 120 #[.string (B [])] w fun e w'=>e=.returned (.tuple #[.int .i64 0,.int .i64 2])/\w=w':=by
 go_enter Tryz.func120,Tryz.ntmps120
 go_wp2
 go_ret2
 exact⟨rfl,rfl⟩
set_option maxHeartbeats 1000000 in
theorem yX (d:List UInt8) (w:World) (hl:d.length<1000000) (h:d=[]\/bt d 0=48):
 Calls Tryz.prog 120 #[.string (B (45::d))] w fun e w'=>e=.returned (.tuple #[.int .i64 0,.int .i64 2])/\w=w':=by
 have hb:bt (45::d) 0=45:=by simp[bt]
 by_cases hne:d=[]
 . subst hne
   go_enter Tryz.func120,Tryz.ntmps120
   go_wp2
   go_ret2
   exact⟨rfl,rfl⟩
 . have h48:bt d 0=48:=h.resolve_left hne;have hne':d.isEmpty=false:=by simp[hne]
   have hpos:0<d.length:=List.length_pos_iff.2 hne;clear h
   go_enter Tryz.func120,Tryz.ntmps120
   go_wp2
   go_ret2
   exact⟨rfl,rfl⟩
set_option maxHeartbeats 1000000 in
theorem yY (d:List UInt8) (w:World) (hl:d.length<1000000) (h1:1<d.length) (h48:bt d 0=48):
 Calls Tryz.prog 120 #[.string (B d)] w fun e w'=>e=.returned (.tuple #[.int .i64 0,.int .i64 2])/\w=w':=by
 have hne':d.isEmpty=false:=by cases d;simp at h1;rfl
 go_enter Tryz.func120,Tryz.ntmps120
 go_wp2
 go_ret2
 exact⟨rfl,rfl⟩
theorem KJ (l:List UInt8) (w:World) (hl:l.length<1000000):
 Calls Tryz.prog 120 #[.string (B l)] w fun e w'=>e=.returned (.tuple #[.int .i64 (pv l).1,.int .i64 (pv l).2])/\w=w':=by
 match l with
 | []=>exact KN w
 | c::d=>
   have hlen:d.length<1000000:=by simp at hl;omega
   by_cases hc:c=45
   . subst hc;by_cases hd:d=[]\/d.head? = some 48
     . have e:pv (45::d)=(0,2):=by simp only[pv,if_true,if_pos hd]
       rw[e];refine yX d w hlen ?_;rcases hd with hd | hd
       . exact Or.inl hd
       . right;cases d with
         | nil=>simp at hd
         | cons x y=>simp at hd;subst hd;simp[bt]
     . have e:pv (45::d)=qI true d:=by simp only[pv,if_true,if_neg hd]
       rw[e];have hne:¬ d=[]:=fun h=>hd (Or.inl h)
       refine KL d w hlen hne ?_;cases d with
       | nil=>exact absurd rfl hne
       | cons x y=>
         simp only[jS];simp at hd⊢;intro h;exact hd (UInt8.toNat_inj.1 (by simpa using (by omega:x.toNat=48)))
   . have h45:(bt (c::d) 0==45)=false:=by
      simp only[jS];simp;intro h;exact hc (UInt8.toNat_inj.1 (by simpa using (by omega:c.toNat=45)))
     by_cases h48:c=48
     . subst h48;by_cases hd:d=[]
       . subst hd;have e:pv [48]=(0,0):=by decide
         rw[e];exact Ik w
       . have e:pv (48::d)=(0,2):=by simp[pv,hd]
         rw[e];refine yY _ w hl ?_ (by simp[bt]);have:=List.length_pos_iff.2 hd;simp;omega
     . have e:pv (c::d)=qI false (c::d):=by simp[pv,hc,h48]
       rw[e];refine KO _ w hl (by simp) h45 ?_;simp only[jS];simp;intro h;exact h48 (UInt8.toNat_inj.1 (by simpa using (by omega:c.toNat=48)))
theorem Aj (l:List UInt8) (a:Nat):l.foldl (fun n (c:UInt8)=>10*n+(c.toNat - 48)) a=a*10 ^ l.length+kV l:=by
 induction l generalizing a with
 | nil=>simp[kV]
 | cons c l ih=>
   simp only[List.foldl_cons,kV,List.length_cons];rw[ih,ih (10*0+(c.toNat - 48))];rw[Nat.pow_succ,Nat.add_mul,Nat.mul_zero,Nat.zero_add,Nat.add_assoc];congr 1;rw[Nat.mul_comm 10 a,Nat.mul_assoc,Nat.mul_comm 10]
theorem CU (c:UInt8) (l:List UInt8):kV (c::l)=(c.toNat - 48)*10 ^ l.length+kV l:=by
 show (c::l).foldl _ 0=_;rw[List.foldl_cons,Aj];simp
theorem Y9 (l:List UInt8) (hne:l≠[]) (h:l.all lM=true) (h0:l.head?≠some 48):10 ^ (l.length - 1)<=kV l:=by
 cases l with
 | nil=>exact absurd rfl hne
 | cons c l=>
   simp only[List.all_cons,Bool.and_eq_true] at h;have hc:48<=c.toNat/\c.toNat<=57:=by have:=h.1;simpa[lM] using this
   have hne:c.toNat≠48:=fun e=>h0 (by simp;exact UInt8.toNat_inj.1 (by simpa using e))
   rw[CU,List.length_cons,Nat.add_sub_cancel];have:1*10 ^ l.length<=(c.toNat - 48)*10 ^ l.length:=Nat.mul_le_mul_right _ (by omega);omega
theorem SI (v:Int) (h0:0<=v) (h1:v<=9223372036854775808):IntKind.u64.wrap (wrap64 v)=v:=by
 rw[wrap_u64];unfold wrap64;omega
end
def jb (b:Int):Int:=if (97<=b/\b<=122)\/b=95 then 1 else if 65<=b/\b<=90 then 2 else if 48<=b/\b<=57 then 3 else 0
def inB (b:Int):Bool:=decide (0<jb b)
def oG (b:Int):Bool:=decide (jb b=3)
def O0 (b:Int):Bool:=decide (jb b=1)
def Jc (b:Int):Bool:=decide (jb b=2)
def yT (b:Int):Bool:=!(b==10)
def rn (p:Int->Bool) (s:List UInt8) (i:Nat):Nat:=((s.drop i).takeWhile fun c=>p c.toNat).length
theorem xY (l:List UInt8) (k:Nat) (h:k<l.length):l.drop k=l[k]::l.drop (k+1):=List.drop_eq_getElem_cons h
theorem iK {p:Int->Bool} {s:List UInt8} {i:Nat} (h:i<s.length) (hp:p (bt s i)=true):rn p s i=rn p s (i+1)+1:=by
 unfold rn;rw[xY s i h,List.takeWhile_cons,<- mF s i h,if_pos hp];rfl
theorem ug {p:Int->Bool} {s:List UInt8} {i:Nat} (h:i<s.length) (hp:p (bt s i)=false):rn p s i=0:=by
 unfold rn;rw[xY s i h,List.takeWhile_cons,<- mF s i h,if_neg (by rw[hp];decide)];rfl
theorem mi {p:Int->Bool} {s:List UInt8} {i:Nat} (h:s.length<=i):rn p s i=0:=by
 unfold rn;rw[List.drop_eq_nil_of_le h];rfl
theorem zx {p:Int->Bool} {s:List UInt8} {i:Nat} (h:i<=s.length):i+rn p s i<=s.length:=by
 unfold rn;have:=(List.takeWhile_sublist (l:=s.drop i) (p:=fun c=>p c.toNat)).length_le;rw[List.length_drop] at this;omega
theorem aaw {p:Int->Bool} {s:List UInt8} (k:Nat):∀ {i:Nat},k<rn p s i->i+k<s.length/\p (bt s (i+k))=true:=by
 induction k with
 | zero=>
   intro i h;by_cases hi:i<s.length
   . by_cases hq:p (bt s i)=true
     . exact⟨hi,hq⟩
     . rw[ug hi (by simpa using hq)] at h;omega
   . rw[mi (by omega)] at h;omega
 | succ k ih=>
   intro i h;by_cases hi:i<s.length
   . by_cases hq:p (bt s i)=true
     . rw[iK hi hq] at h;have:=ih (i:=i+1) (by omega);rw[show i+(k+1)=i+1+k by omega];exact this
     . rw[ug hi (by simpa using hq)] at h;omega
   . rw[mi (by omega)] at h;omega
theorem ZG {p:Int->Bool} {s:List UInt8} {i j:Nat} (h1:i<=j) (h2:j<i+rn p s i):j<s.length/\p (bt s j)=true:=by
 obtain⟨k,rfl⟩:=Nat.exists_eq_add_of_le h1;exact aaw k (by omega)
def skG (b:Int) (note:Bool):Bool:=(note||b==35)&&!(b==10)
def skP (b:Int) (note:Bool):Bool:=note||b==32||b==9||b==13||b==10
def sk:Bool->List UInt8->Nat
 | _,[]=>0
 | note,c::t=>if skP c.toNat (skG c.toNat note) then sk (skG c.toNat note) t+1 else 0
def jV (note:Bool) (s:List UInt8) (i:Nat):Nat:=sk note (s.drop i)
theorem Ey {s:List UInt8} {i:Nat} (h:s.length<=i) (note:Bool):jV note s i=0:=by
 unfold jV;rw[List.drop_eq_nil_of_le h];rfl
theorem rQ {s:List UInt8} {i:Nat} (h:i<s.length) (note:Bool):jV note s i=if skP (bt s i) (skG (bt s i) note) then jV (skG (bt s i) note) s (i+1)+1 else 0:=by
 unfold jV;rw[xY s i h,sk,<- mF s i h]
theorem WL {s:List UInt8} {i:Nat} (note:Bool) (h:i<=s.length):i+jV note s i<=s.length:=by
 have:∀ (l:List UInt8) (note:Bool),sk note l<=l.length:=by
  intro l
  induction l with
  | nil=>intro note;simp[sk]
  | cons c t ih=>
    intro note;rw[sk];split
    . have:=ih (skG c.toNat note);simp;omega
    . simp
 have:=this (s.drop i) note;rw[List.length_drop] at this;unfold jV;omega
theorem WN {s:List UInt8} {i:Nat} (h:i<=s.length):jV true s i=rn yT s i+jV false s (i+rn yT s i):=by
 generalize hn:rn yT s i=n
 induction n generalizing i with
 | zero=>
   rw[Nat.add_zero,Nat.zero_add];by_cases hi:i<s.length
   . rw[rQ hi,rQ hi];cases hq:yT (bt s i)
     . have:bt s i=10:=by simpa[yT] using hq
       rw[this];rfl
     . rw[iK hi hq] at hn;omega
   . rw[Ey (by omega),Ey (by omega)]
 | succ n ih=>
   have hi:i<s.length:=by
    by_cases hi:i<s.length
    . exact hi
    . rw[mi (by omega)] at hn;omega
   cases hq:yT (bt s i)
   . rw[ug hi hq] at hn;omega
   . rw[iK hi hq] at hn;have hne:(bt s i==10)=false:=by simpa[yT] using hq
     rw[rQ hi];simp only[skG,skP,hne,Bool.true_or,Bool.not_false,Bool.and_true,if_true];rw[ih (i:=i+1) (by omega) (by omega),show i+(n+1)=i+1+n by omega];omega
theorem WJ {s:List UInt8} {i:Nat} (h:i<s.length) (hb:bt s i=35):jV false s i=rn yT s i+jV false s (i+rn yT s i):=by
 rw[<- WN (by omega),rQ h,rQ h,hb];rfl
theorem qE {s:List UInt8} {i:Nat} (h:i<s.length) (hb:bt s i=10\/bt s i=32\/bt s i=9\/bt s i=13):jV false s i=jV false s (i+1)+1:=by
 rw[rQ h];rcases hb with hb | hb | hb | hb<;>rw[hb]<;>rfl
theorem WM {s:List UInt8} {i:Nat} (h:i<s.length) (hb:bt s i≠10/\bt s i≠32/\bt s i≠9/\bt s i≠13/\bt s i≠35):jV false s i=0:=by
 rw[rQ h];obtain⟨h1,h2,h3,h4,h5⟩:=hb;simp[skG,skP,h1,h2,h3,h4,h5]
def ad (p:Int×Int) (b:Int):Int×Int:=if b=10 then (p.1+1,1) else (p.1,p.2+1)
def mr (p:Int×Int) (l:List UInt8):Int×Int:=l.foldl (fun p c=>ad p c.toNat) p
def sub (s:List UInt8) (i j:Nat):List UInt8:=(s.take j).drop i
theorem zM (s:List UInt8) {i j:Nat} (hi:i<=j) (hj:j<s.length):sub s i (j+1)=sub s i j++[s[j]]:=by
 unfold sub;rw[List.take_succ_eq_append_getElem hj,List.drop_append_of_le_length (by rw[List.length_take];omega)]
theorem uk (s:List UInt8) (i:Nat):sub s i i=[]:=by
 unfold sub;exact List.drop_eq_nil_of_le (by rw[List.length_take];omega)
theorem xw (s:List UInt8) {i j:Nat} (hj:j<=s.length):(sub s i j).length=j - i:=by
 unfold sub;rw[List.length_drop,List.length_take];omega
theorem sub_sub (s:List UInt8) {i j k:Nat} (h1:i<=j) (h2:j<=k) (h3:k<=s.length):sub s i k=sub s i j++sub s j k:=by
 obtain⟨m,rfl⟩:=Nat.exists_eq_add_of_le h2
 induction m with
 | zero=>rw[Nat.add_zero,uk,List.append_nil]
 | succ m ih=>
   rw[show j+(m+1)=(j+m)+1 by omega,zM s (by omega) (by omega),zM s (i:=j) (by omega) (by omega),ih (by omega) (by omega),List.append_assoc]
theorem oQ (p:Int×Int) (s:List UInt8) {i j:Nat} (hi:i<=j) (hj:j<s.length):mr p (sub s i (j+1))=ad (mr p (sub s i j)) (bt s j):=by
 rw[zM s hi hj,mr,List.foldl_append,<- mr,mF s j hj];rfl
theorem Df (p:Int×Int) (l m:List UInt8):mr p (l++m)=mr (mr p l) m:=by unfold mr;rw[List.foldl_append]
theorem Md (p:Int×Int):mr p []=p:=rfl
theorem Fa (p:Int×Int) (s:List UInt8) {i n:Nat} (hn:i+n<=s.length) (h:∀ j,i<=j->j<i+n->bt s j≠10):mr p (sub s i (i+n))=(p.1,p.2+n):=by
 induction n with
 | zero=>rw[Nat.add_zero,uk,Md];simp
 | succ n ih=>
   rw[show i+(n+1)=(i+n)+1 by omega,oQ p s (by omega) (by omega),ih (by omega) (fun j h1 h2=>h j h1 (by omega)),ad,if_neg (h _ (by omega) (by omega))];simp;omega
theorem S9 (p:Int×Int) (l:List UInt8) (h1:0<=p.1) (h2:0<=p.2):0<=(mr p l).1/\(mr p l).1<=p.1+l.length/\0<=(mr p l).2/\(mr p l).2<=max p.2 1+l.length:=by
 induction l generalizing p with
 | nil=>simp[mr];omega
 | cons c t ih=>
   have hc:mr p (c::t)=mr (ad p c.toNat) t:=rfl;have hb:0<=(ad p c.toNat).1/\(ad p c.toNat).1<=p.1+1/\0<=(ad p c.toNat).2/\max (ad p c.toNat).2 1<=max p.2 1+1:=by
    unfold ad;split<;>simp<;>omega
   obtain⟨i1,i2,i3,i4⟩:=ih (ad p c.toNat) hb.1 hb.2.2.1;rw[hc];simp only[List.length_cons];refine⟨i1,by omega,i3,by omega⟩
section
attribute [local go_sem] Fm.says
def GX:Fm:=(.ret (.p (.one (.b (.or (.and (.le (.c 97) (.x 0)) (.le (.x 0) (.c 122))) (.eqI (.x 0) (.c 95)))))))
theorem QB:aU ⟨true,[]⟩ Tryz.prog (fun l=>([]:List bG).getD l ⟨[],[],[]⟩) Tryz.f73=GX:=by kernel_rfl
theorem VY:az Tryz.prog .zero Tryz.f73.params.toList=some ([(.one (.U 0))],⟨1,0,0,0,0,0⟩):=by kernel_rfl
def F9:Fm:=(.ret (.p (.one (.b (.and (.le (.c 65) (.x 0)) (.le (.x 0) (.c 90)))))))
theorem PZ:aU ⟨true,[]⟩ Tryz.prog (fun l=>([]:List bG).getD l ⟨[],[],[]⟩) Tryz.f74=F9:=by kernel_rfl
theorem Vt:az Tryz.prog .zero Tryz.f74.params.toList=some ([(.one (.U 0))],⟨1,0,0,0,0,0⟩):=by kernel_rfl
def F7:Fm:=(.ret (.p (.one (.b (.and (.le (.c 48) (.x 0)) (.le (.x 0) (.c 57)))))))
theorem PX:aU ⟨true,[]⟩ Tryz.prog (fun l=>([]:List bG).getD l ⟨[],[],[]⟩) Tryz.f76=F7:=by kernel_rfl
theorem Vr:az Tryz.prog .zero Tryz.f76.params.toList=some ([(.one (.U 0))],⟨1,0,0,0,0,0⟩):=by kernel_rfl
def Gf:Fm:=(.C 73 [(.one (.U 0))] (.p (.B 0)) ⟨0,1,0,0,0,0⟩
 (.call (.not (.x 0)) false 74 [(.one (.U 0))] (.p (.B 1)) ⟨0,1,0,0,0,0⟩
 (.call (.not (.or (.x 0) (.x 1))) false 76 [(.one (.U 0))] (.p (.B 2)) ⟨0,1,0,0,0,0⟩
 (.ret (.p (.one (.b (.or (.or (.x 0) (.x 1)) (.x 2)))))))))
theorem P5:aU ⟨true,[]⟩ Tryz.prog (fun l=>([]:List bG).getD l ⟨[],[],[]⟩) Tryz.f117=Gf:=by kernel_rfl
theorem Vu:az Tryz.prog .zero Tryz.f117.params.toList=some ([(.one (.U 0))],⟨1,0,0,0,0,0⟩):=by kernel_rfl
def GV:Fm:=(.ret (.p (.one (.b (.not (.eqI (.x 0) (.c 10)))))))
theorem QA:aU ⟨true,[]⟩ Tryz.prog (fun l=>([]:List bG).getD l ⟨[],[],[]⟩) Tryz.f116=GV:=by kernel_rfl
theorem VX:az Tryz.prog .zero Tryz.f116.params.toList=some ([(.one (.U 0))],⟨1,0,0,0,0,0⟩):=by kernel_rfl
def Nz:Fm:=(.Z 0
 (.Z 0
 (.O (.pt 0 1) 1 [.J 1] ⟨1,0,0,0,0,0⟩
 (.N (.R (.add (.x 1) (.x 0)))
 (.Z 0
 (.Z 0
 (.store (.pt 0 1) [(.i .i64 (.add (.x 1) (.x 0)))]
 (.Z 0
 (.Z 0
 (.O (.pt 0 3) 1 [.J 2] ⟨1,0,0,0,0,0⟩
 (.N (.R (.add (.x 2) (.x 0)))
 (.Z 0
 (.Z 0
 (.store (.pt 0 3) [(.i .i64 (.add (.x 2) (.x 0)))]
 .E))))))))))))))
theorem UB:aU ⟨true,[]⟩ Tryz.prog (fun l=>([]:List bG).getD l ⟨[],[],[]⟩) Tryz.f114=Nz:=by kernel_rfl
theorem Yv:az Tryz.prog .zero Tryz.f114.params.toList=some ([.P 0,.J 0],⟨1,0,0,0,0,1⟩):=by kernel_rfl
def sV:Fm:=(.ite (.or (.and (.le (.c 97) (.x 0)) (.le (.x 0) (.c 122))) (.eqI (.x 0) (.c 95)))
 (.ret (.p (.I (.c 1))))
 (.ite (.and (.le (.c 65) (.x 0)) (.le (.x 0) (.c 90)))
 (.ret (.p (.I (.c 2))))
 (.ite (.and (.le (.c 48) (.x 0)) (.le (.x 0) (.c 57)))
 (.ret (.p (.I (.c 3))))
 (.ret (.p (.I (.c 0)))))))
theorem Uw:aU ⟨true,[]⟩ Tryz.prog (fun l=>([]:List bG).getD l ⟨[],[],[]⟩) Tryz.f146=sV:=by kernel_rfl
theorem Yp:az Tryz.prog .zero Tryz.f146.params.toList=some ([(.one (.U 0))],⟨1,0,0,0,0,0⟩):=by kernel_rfl
def rc (s:List UInt8) (a l c:Int):List Value:=[.string (B s),.int .i64 a,.int .i64 l,.int .i64 c]
def iV:Ct Tryz.prog where
 f:=73
 spec:=fun args h φ=>∃ b:Int,args=[.int .u8 b]/\φ (.bool (O0 b)) h
 ok:=by
  rintro args h φ w ⟨b,rfl,hφ⟩ hH;refine aZ Tryz.func73 QB VY [] φ bJ aV ⟨[b],[],[],[],[],[],h,cu⟩ ⟨rfl,rfl,rfl,rfl,rfl,rfl⟩ af ?_ w hH rfl;have e:O0 b=((leB 97 b&&leB b 122)||b==95):=by
   unfold O0 jb leB;rw[Bool.eq_iff_iff];simp;split<;>(try split)<;>(try split)<;>simp_all
  simp[GX,go_sem];rw[e] at hφ;simpa using hφ
def fV:Ct Tryz.prog where
 f:=74
 spec:=fun args h φ=>∃ b:Int,args=[.int .u8 b]/\φ (.bool (Jc b)) h
 ok:=by
  rintro args h φ w ⟨b,rfl,hφ⟩ hH;refine aZ Tryz.func74 PZ Vt [] φ bJ aV ⟨[b],[],[],[],[],[],h,cu⟩ ⟨rfl,rfl,rfl,rfl,rfl,rfl⟩ af ?_ w hH rfl;have e:Jc b=(leB 65 b&&leB b 90):=by
   unfold Jc jb leB;rw[Bool.eq_iff_iff];simp;split<;>(try split)<;>(try split)<;>simp_all<;>omega
  simp[F9,go_sem];rw[e] at hφ;simpa using hφ
def gX:Ct Tryz.prog where
 f:=76
 spec:=fun args h φ=>∃ b:Int,args=[.int .u8 b]/\φ (.bool (oG b)) h
 ok:=by
  rintro args h φ w ⟨b,rfl,hφ⟩ hH;refine aZ Tryz.func76 PX Vr [] φ bJ aV ⟨[b],[],[],[],[],[],h,cu⟩ ⟨rfl,rfl,rfl,rfl,rfl,rfl⟩ af ?_ w hH rfl;have e:oG b=(leB 48 b&&leB b 57):=by
   unfold oG jb leB;rw[Bool.eq_iff_iff];simp;split<;>(try split)<;>(try split)<;>simp_all<;>omega
  simp[F7,go_sem];rw[e] at hφ;simpa using hφ
theorem Z5 (b:Int):inB b=(O0 b||Jc b||oG b):=by
 unfold inB O0 Jc oG jb;rw[Bool.eq_iff_iff];split<;>(try split)<;>(try split)<;>simp
def wP:Ct Tryz.prog where
 f:=117
 spec:=fun args h φ=>∃ b:Int,args=[.int .u8 b]/\φ (.bool (inB b)) h
 ok:=by
  rintro args h φ w ⟨b,rfl,hφ⟩ hH;refine aZ Tryz.func117 P5 Vu [iV,fV,gX] φ bJ aV ⟨[b],[],[],[],[],[],h,cu⟩ ⟨rfl,rfl,rfl,rfl,rfl,rfl⟩ af ?_ w hH rfl;rw[Z5] at hφ;cases h1:O0 b<;>cases h2:Jc b<;>rw[h1,h2] at hφ<;>simp[Gf,go_sem,iV,fV,gX,h1,h2]<;>simpa using hφ
def Na:Ct Tryz.prog where
 f:=116
 spec:=fun args h φ=>∃ b:Int,args=[.int .u8 b]/\φ (.bool (yT b)) h
 ok:=by
  rintro args h φ w ⟨b,rfl,hφ⟩ hH;refine aZ Tryz.func116 QA VX [] φ bJ aV ⟨[b],[],[],[],[],[],h,cu⟩ ⟨rfl,rfl,rfl,rfl,rfl,rfl⟩ af ?_ w hH rfl;simp[GV,go_sem];exact hφ
def jI:Ct Tryz.prog where
 f:=146
 spec:=fun args h φ=>∃ b:Int,args=[.int .u8 b]/\φ (.int .i64 (jb b)) h
 ok:=by
  rintro args h φ w ⟨b,rfl,hφ⟩ hH;refine aZ Tryz.func146 Uw Yp [] φ bJ aV ⟨[b],[],[],[],[],[],h,cu⟩ ⟨rfl,rfl,rfl,rfl,rfl,rfl⟩ af ?_ w hH rfl;unfold jb at hφ;by_cases h1:(97<=b/\b<=122)\/b=95
  . rw[if_pos h1] at hφ;simp[sV,go_sem,h1,hφ];intro x y;exfalso;omega
  . rw[if_neg h1] at hφ;by_cases h2:65<=b/\b<=90
    . rw[if_pos h2] at hφ;simp[sV,go_sem,h1,h2,hφ];intro x y z;exfalso;omega
    . rw[if_neg h2] at hφ;by_cases h3:48<=b/\b<=57
      . rw[if_pos h3] at hφ;simp[sV,go_sem,h1,h2,h3,hφ];intro x y z u;exfalso;omega
      . rw[if_neg h3] at hφ;simp[sV,go_sem,h1,h2,h3,hφ]
def gK:Ct Tryz.prog where
 f:=114
 spec:=fun args h φ=>∃ b s a l c,∃ T:Rw,∃ n,args=[.pointer (some ⟨b,0,none⟩),.int .i64 n]/\h b=some ⟨rc s a l c,T⟩/\0<=a/\a<=1000000/\0<=c/\c<=1000000/\0<=n/\n<=1000000/\φ (.tuple #[]) (h.set b ⟨rc s (a+n) l (c+n),T⟩)
 ok:=by
  rintro args h φ w ⟨b,s,a,l,c,T,n,rfl,hb,h1,h2,h3,h4,h5,h6,hφ⟩ hH;obtain⟨h,rfl⟩:∃ h',h=Hp.set h' b ⟨rc s a l c,T⟩:=⟨h,set_self hb⟩;refine aZ Tryz.func114 UB Yv [] φ bJ aV ⟨[n],[],[],[],[],[some (b,0)],h.set b ⟨rc s a l c,T⟩,cu⟩ ⟨rfl,rfl,rfl,rfl,rfl,rfl⟩ af ?_ w hH rfl;rw[eY] at hφ;simp[Nz,go_sem,rc];refine⟨by omega,by omega,by omega,by omega,?_⟩;simpa[rc] using hφ
end
def Bl:Fm:=(.loop 0 ⟨[(.c 0)],[],[],[],[],[]⟩
 (.O (.pt 0 1) 1 [.J 1] ⟨1,0,0,0,0,0⟩
 (.O (.pt 0 0) 1 [(.s (.x 0))] ⟨0,0,1,0,0,0⟩
 (.load (.lt (.add (.x 1) (.x 0)) (.len (.x 0))) (.pt 0 0) 1 [(.s (.x 1))] ⟨0,0,1,0,0,0⟩
 (.load (.lt (.add (.x 1) (.x 0)) (.len (.x 0))) (.pt 0 1) 1 [.J 2] ⟨1,0,0,0,0,0⟩
 (.Z 0
 (.Z 0
 (.N (.R (.add (.x 1) (.x 0)))
 (.Z 0
 (.Z 0
 (.need (.lt (.add (.x 1) (.x 0)) (.len (.x 0))) (.nnp 0)
 (.need (.lt (.add (.x 1) (.x 0)) (.len (.x 0))) (.nnp 0)
 (.need (.lt (.add (.x 1) (.x 0)) (.len (.x 0))) (.nnp 0)
 (.need (.lt (.add (.x 1) (.x 0)) (.len (.x 0))) (.nnp 0)
 (.need (.lt (.add (.x 1) (.x 0)) (.len (.x 0))) (.R (.add (.x 2) (.x 0)))
 (.need (.lt (.add (.x 1) (.x 0)) (.len (.x 0))) (.and (.le (.c 0) (.add (.x 2) (.x 0))) (.lt (.add (.x 2) (.x 0)) (.len (.x 1))))
 (.call (.lt (.add (.x 1) (.x 0)) (.len (.x 0))) false 76 [(.one (.i .u8 (.at (.x 1) (.add (.x 2) (.x 0)))))] (.p (.B 0)) ⟨0,1,0,0,0,0⟩
 (.ite (.and (.lt (.add (.x 1) (.x 0)) (.len (.x 0))) (.x 0))
 (.N (.R (.add (.x 0) (.c 1)))
 (.again 0 ⟨0,0,0,0,0,1⟩ ⟨1,0,0,0,0,1⟩ ⟨[(.add (.x 0) (.c 1))],[],[],[],[],[]⟩))
 (.ret (.p (.J 0)))))))))))))))))))))
theorem JP:jK ⟨true,[]⟩ Tryz.prog (fun l=>([⟨[5],[6,7,8,9,10,11,12,13,14,15,16,17,18,19,20,21,22,23,24,25,26,27,28,29,30,31,32,33,34],[]⟩]:List bG).getD l ⟨[],[],[]⟩) Tryz.f115 [.P 0,.one (.c (.fn 76))] ⟨0,0,0,0,0,1⟩=Bl:=by kernel_rfl
def Bo:Fm:=(.loop 0 ⟨[(.c 0)],[],[],[],[],[]⟩
 (.O (.pt 0 1) 1 [.J 1] ⟨1,0,0,0,0,0⟩
 (.O (.pt 0 0) 1 [(.s (.x 0))] ⟨0,0,1,0,0,0⟩
 (.load (.lt (.add (.x 1) (.x 0)) (.len (.x 0))) (.pt 0 0) 1 [(.s (.x 1))] ⟨0,0,1,0,0,0⟩
 (.load (.lt (.add (.x 1) (.x 0)) (.len (.x 0))) (.pt 0 1) 1 [.J 2] ⟨1,0,0,0,0,0⟩
 (.Z 0
 (.Z 0
 (.N (.R (.add (.x 1) (.x 0)))
 (.Z 0
 (.Z 0
 (.need (.lt (.add (.x 1) (.x 0)) (.len (.x 0))) (.nnp 0)
 (.need (.lt (.add (.x 1) (.x 0)) (.len (.x 0))) (.nnp 0)
 (.need (.lt (.add (.x 1) (.x 0)) (.len (.x 0))) (.nnp 0)
 (.need (.lt (.add (.x 1) (.x 0)) (.len (.x 0))) (.nnp 0)
 (.need (.lt (.add (.x 1) (.x 0)) (.len (.x 0))) (.R (.add (.x 2) (.x 0)))
 (.need (.lt (.add (.x 1) (.x 0)) (.len (.x 0))) (.and (.le (.c 0) (.add (.x 2) (.x 0))) (.lt (.add (.x 2) (.x 0)) (.len (.x 1))))
 (.call (.lt (.add (.x 1) (.x 0)) (.len (.x 0))) false 117 [(.one (.i .u8 (.at (.x 1) (.add (.x 2) (.x 0)))))] (.p (.B 0)) ⟨0,1,0,0,0,0⟩
 (.ite (.and (.lt (.add (.x 1) (.x 0)) (.len (.x 0))) (.x 0))
 (.N (.R (.add (.x 0) (.c 1)))
 (.again 0 ⟨0,0,0,0,0,1⟩ ⟨1,0,0,0,0,1⟩ ⟨[(.add (.x 0) (.c 1))],[],[],[],[],[]⟩))
 (.ret (.p (.J 0)))))))))))))))))))))
theorem JQ:jK ⟨true,[]⟩ Tryz.prog (fun l=>([⟨[5],[6,7,8,9,10,11,12,13,14,15,16,17,18,19,20,21,22,23,24,25,26,27,28,29,30,31,32,33,34],[]⟩]:List bG).getD l ⟨[],[],[]⟩) Tryz.f115 [.P 0,.one (.c (.fn 117))] ⟨0,0,0,0,0,1⟩=Bo:=by kernel_rfl
def Bq:Fm:=(.loop 0 ⟨[(.c 0)],[],[],[],[],[]⟩
 (.O (.pt 0 1) 1 [.J 1] ⟨1,0,0,0,0,0⟩
 (.O (.pt 0 0) 1 [(.s (.x 0))] ⟨0,0,1,0,0,0⟩
 (.load (.lt (.add (.x 1) (.x 0)) (.len (.x 0))) (.pt 0 0) 1 [(.s (.x 1))] ⟨0,0,1,0,0,0⟩
 (.load (.lt (.add (.x 1) (.x 0)) (.len (.x 0))) (.pt 0 1) 1 [.J 2] ⟨1,0,0,0,0,0⟩
 (.Z 0
 (.Z 0
 (.N (.R (.add (.x 1) (.x 0)))
 (.Z 0
 (.Z 0
 (.need (.lt (.add (.x 1) (.x 0)) (.len (.x 0))) (.nnp 0)
 (.need (.lt (.add (.x 1) (.x 0)) (.len (.x 0))) (.nnp 0)
 (.need (.lt (.add (.x 1) (.x 0)) (.len (.x 0))) (.nnp 0)
 (.need (.lt (.add (.x 1) (.x 0)) (.len (.x 0))) (.nnp 0)
 (.need (.lt (.add (.x 1) (.x 0)) (.len (.x 0))) (.R (.add (.x 2) (.x 0)))
 (.need (.lt (.add (.x 1) (.x 0)) (.len (.x 0))) (.and (.le (.c 0) (.add (.x 2) (.x 0))) (.lt (.add (.x 2) (.x 0)) (.len (.x 1))))
 (.call (.lt (.add (.x 1) (.x 0)) (.len (.x 0))) false 116 [(.one (.i .u8 (.at (.x 1) (.add (.x 2) (.x 0)))))] (.p (.B 0)) ⟨0,1,0,0,0,0⟩
 (.ite (.and (.lt (.add (.x 1) (.x 0)) (.len (.x 0))) (.x 0))
 (.N (.R (.add (.x 0) (.c 1)))
 (.again 0 ⟨0,0,0,0,0,1⟩ ⟨1,0,0,0,0,1⟩ ⟨[(.add (.x 0) (.c 1))],[],[],[],[],[]⟩))
 (.ret (.p (.J 0)))))))))))))))))))))
theorem JR:jK ⟨true,[]⟩ Tryz.prog (fun l=>([⟨[5],[6,7,8,9,10,11,12,13,14,15,16,17,18,19,20,21,22,23,24,25,26,27,28,29,30,31,32,33,34],[]⟩]:List bG).getD l ⟨[],[],[]⟩) Tryz.f115 [.P 0,.one (.c (.fn 116))] ⟨0,0,0,0,0,1⟩=Bq:=by kernel_rfl
section
attribute [local go_sem] Fm.says
def uT (p:Int->Bool) (s:List UInt8) (a:Nat) (l c:Int) (T b:Nat) (h:Hp) (_:Nat) (C:Ctx):Prop:=
 ∃ n:Int,C=⟨[n],[],[],[],[],[some (b,0)],h.set b ⟨rc s a l c,T⟩,cu⟩/\∃ k:Nat,n=(k:Int)/\a+k<=s.length/\rn p s a=k+rn p s (a+k)
theorem aay {s:List UInt8} {a:Nat} {l c:Int} {T b:Nat} (ha:a<=s.length) (hs:s.length<=1000000) (h:Hp) (φ:Value->Hp->Prop) (hφ:φ (.int .i64 (rn oG s a)) (h.set b ⟨rc s a l c,T⟩)) (w:World) (hH:Holds (h.set b ⟨rc s a l c,T⟩) w):
 Calls Tryz.prog 115 #[.pointer (some ⟨b,0,none⟩),.func (.func 76) #[] #[]] w fun e w'=>∃ v k,e=.returned v/\φ v k/\Holds k w'/\Fr w.heap.size (h.set b ⟨rc s a l c,T⟩) k w w':=by
 refine oU Tryz.func115 JP [gX] φ (uT oG s a l c T b h) (fun _ C=>(s.length - C.i.getD 0 0).toNat) ⟨[],[],[],[],[],[some (b,0)],h.set b ⟨rc s a l c,T⟩,cu⟩ ⟨rfl,rfl,rfl,rfl,rfl,rfl⟩ af ?_ w hH rfl;simp[Bl,go_sem,rc,uT,gX];refine⟨⟨0,rfl,by omega,by simp⟩,fun x k hx hk hr=>?_⟩;subst hx;by_cases hlt:(a:Int)+k<s.length
 . have hi:a+k<s.length:=by omega
   have e:((a:Int)+(k:Int)).toNat=a+k:=by omega
   have hlt':¬ ((s.length:Int)<=a+k):=by omega
   cases hp:oG (bt s (a+k))
   . rw[ug hi hp] at hr;have hk':(k:Int)=(rn oG s a:Int):=by omega
     simp[hlt,hlt',e,hp]
     (repeat' apply And.intro)<;>try omega
     rw[hk'];simpa[rc] using hφ
   . rw[iK hi hp] at hr;simp[hlt,hlt',e,hp]
     (repeat' apply And.intro)<;>try omega
     exact⟨k+1,by omega,by omega,by rw[show a+(k+1)=a+k+1 by omega];omega⟩
 . have hge:(s.length:Int)<=a+k:=by omega
   rw[mi (i:=a+k) (by omega)] at hr;have hk':(k:Int)=(rn oG s a:Int):=by omega
   simp[hlt,hge]
   (repeat' apply And.intro)<;>try omega
   rw[hk'];simpa[rc] using hφ
theorem RY {s:List UInt8} {a:Nat} {l c:Int} {T b:Nat} (ha:a<=s.length) (hs:s.length<=1000000) (h:Hp) (φ:Value->Hp->Prop) (hφ:φ (.int .i64 (rn inB s a)) (h.set b ⟨rc s a l c,T⟩)) (w:World) (hH:Holds (h.set b ⟨rc s a l c,T⟩) w):
 Calls Tryz.prog 115 #[.pointer (some ⟨b,0,none⟩),.func (.func 117) #[] #[]] w fun e w'=>∃ v k,e=.returned v/\φ v k/\Holds k w'/\Fr w.heap.size (h.set b ⟨rc s a l c,T⟩) k w w':=by
 refine oU Tryz.func115 JQ [wP] φ (uT inB s a l c T b h) (fun _ C=>(s.length - C.i.getD 0 0).toNat) ⟨[],[],[],[],[],[some (b,0)],h.set b ⟨rc s a l c,T⟩,cu⟩ ⟨rfl,rfl,rfl,rfl,rfl,rfl⟩ af ?_ w hH rfl;simp[Bo,go_sem,rc,uT,wP];refine⟨⟨0,rfl,by omega,by simp⟩,fun x k hx hk hr=>?_⟩;subst hx;by_cases hlt:(a:Int)+k<s.length
 . have hi:a+k<s.length:=by omega
   have e:((a:Int)+(k:Int)).toNat=a+k:=by omega
   have hlt':¬ ((s.length:Int)<=a+k):=by omega
   cases hp:inB (bt s (a+k))
   . rw[ug hi hp] at hr;have hk':(k:Int)=(rn inB s a:Int):=by omega
     simp[hlt,hlt',e,hp]
     (repeat' apply And.intro)<;>try omega
     rw[hk'];simpa[rc] using hφ
   . rw[iK hi hp] at hr;simp[hlt,hlt',e,hp]
     (repeat' apply And.intro)<;>try omega
     exact⟨k+1,by omega,by omega,by rw[show a+(k+1)=a+k+1 by omega];omega⟩
 . have hge:(s.length:Int)<=a+k:=by omega
   rw[mi (i:=a+k) (by omega)] at hr;have hk':(k:Int)=(rn inB s a:Int):=by omega
   simp[hlt,hge]
   (repeat' apply And.intro)<;>try omega
   rw[hk'];simpa[rc] using hφ
theorem aaz {s:List UInt8} {a:Nat} {l c:Int} {T b:Nat} (ha:a<=s.length) (hs:s.length<=1000000) (h:Hp) (φ:Value->Hp->Prop) (hφ:φ (.int .i64 (rn yT s a)) (h.set b ⟨rc s a l c,T⟩)) (w:World) (hH:Holds (h.set b ⟨rc s a l c,T⟩) w):
 Calls Tryz.prog 115 #[.pointer (some ⟨b,0,none⟩),.func (.func 116) #[] #[]] w fun e w'=>∃ v k,e=.returned v/\φ v k/\Holds k w'/\Fr w.heap.size (h.set b ⟨rc s a l c,T⟩) k w w':=by
 refine oU Tryz.func115 JR [Na] φ (uT yT s a l c T b h) (fun _ C=>(s.length - C.i.getD 0 0).toNat) ⟨[],[],[],[],[],[some (b,0)],h.set b ⟨rc s a l c,T⟩,cu⟩ ⟨rfl,rfl,rfl,rfl,rfl,rfl⟩ af ?_ w hH rfl;simp[Bq,go_sem,rc,uT,Na];refine⟨⟨0,rfl,by omega,by simp⟩,fun x k hx hk hr=>?_⟩;subst hx;by_cases hlt:(a:Int)+k<s.length
 . have hi:a+k<s.length:=by omega
   have e:((a:Int)+(k:Int)).toNat=a+k:=by omega
   have hlt':¬ ((s.length:Int)<=a+k):=by omega
   cases hp:yT (bt s (a+k))
   . rw[ug hi hp] at hr;have hk':(k:Int)=(rn yT s a:Int):=by omega
     simp[hlt,hlt',e,hp]
     (repeat' apply And.intro)<;>try omega
     rw[hk'];simpa[rc] using hφ
   . rw[iK hi hp] at hr;simp[hlt,hlt',e,hp]
     (repeat' apply And.intro)<;>try omega
     exact⟨k+1,by omega,by omega,by rw[show a+(k+1)=a+k+1 by omega];omega⟩
 . have hge:(s.length:Int)<=a+k:=by omega
   rw[mi (i:=a+k) (by omega)] at hr;have hk':(k:Int)=(rn yT s a:Int):=by omega
   simp[hlt,hge]
   (repeat' apply And.intro)<;>try omega
   rw[hk'];simpa[rc] using hφ
end
def XM:Fm:=(.loop 0 ⟨[],[],[],[],[],[]⟩
 (.O (.pt 0 1) 1 [.J 0] ⟨1,0,0,0,0,0⟩
 (.O (.pt 0 0) 1 [(.s (.x 0))] ⟨0,0,1,0,0,0⟩
 (.Z 0
 (.Z 0
 (.Z 0
 (.Z 0
 (.ite (.eqI (.x 0) (.len (.x 0)))
 .E
 (.O (.pt 0 0) 1 [(.s (.x 1))] ⟨0,0,1,0,0,0⟩
 (.O (.pt 0 1) 1 [.J 1] ⟨1,0,0,0,0,0⟩
 (.Z 0
 (.Z 0
 (.Z 0
 (.Z 0
 (.N (.and (.le (.c 0) (.x 1)) (.lt (.x 1) (.len (.x 1))))
 (.ite (.eqI (.at (.x 1) (.x 1)) (.c 10))
 (.Z 0
 (.Z 0
 (.O (.pt 0 2) 1 [.J 2] ⟨1,0,0,0,0,0⟩
 (.N (.R (.add (.x 2) (.c 1)))
 (.Z 0
 (.Z 0
 (.store (.pt 0 2) [(.i .i64 (.add (.x 2) (.c 1)))]
 (.Z 0
 (.Z 0
 (.store (.pt 0 3) [(.i .i64 (.c 0))]
 (.V 114 [.P 0,(.I (.c 1))]
 (.again 0 ⟨0,0,0,0,0,1⟩ ⟨0,0,0,0,0,1⟩ ⟨[],[],[],[],[],[]⟩))))))))))))
 (.ite (.eqI (.at (.x 1) (.x 1)) (.c 32))
 (.ite (.eqI (.at (.x 1) (.x 1)) (.c 32))
 (.V 114 [.P 0,(.I (.c 1))]
 (.again 0 ⟨0,0,0,0,0,1⟩ ⟨0,0,0,0,0,1⟩ ⟨[],[],[],[],[],[]⟩))
 (.ite (.eqI (.at (.x 1) (.x 1)) (.c 35))
 (.C 115 [.P 0,(.one (.c (.fn 116)))] (.p (.J 2)) ⟨1,0,0,0,0,0⟩
 (.V 114 [.P 0,.J 2]
 (.again 0 ⟨0,0,0,0,0,1⟩ ⟨0,0,0,0,0,1⟩ ⟨[],[],[],[],[],[]⟩)))
 .E))
 (.ite (.eqI (.at (.x 1) (.x 1)) (.c 9))
 (.ite (.eqI (.at (.x 1) (.x 1)) (.c 9))
 (.V 114 [.P 0,(.I (.c 1))]
 (.again 0 ⟨0,0,0,0,0,1⟩ ⟨0,0,0,0,0,1⟩ ⟨[],[],[],[],[],[]⟩))
 (.ite (.eqI (.at (.x 1) (.x 1)) (.c 35))
 (.C 115 [.P 0,(.one (.c (.fn 116)))] (.p (.J 2)) ⟨1,0,0,0,0,0⟩
 (.V 114 [.P 0,.J 2]
 (.again 0 ⟨0,0,0,0,0,1⟩ ⟨0,0,0,0,0,1⟩ ⟨[],[],[],[],[],[]⟩)))
 .E))
 (.ite (.eqI (.at (.x 1) (.x 1)) (.c 13))
 (.V 114 [.P 0,(.I (.c 1))]
 (.again 0 ⟨0,0,0,0,0,1⟩ ⟨0,0,0,0,0,1⟩ ⟨[],[],[],[],[],[]⟩))
 (.ite (.eqI (.at (.x 1) (.x 1)) (.c 35))
 (.C 115 [.P 0,(.one (.c (.fn 116)))] (.p (.J 2)) ⟨1,0,0,0,0,0⟩
 (.V 114 [.P 0,.J 2]
 (.again 0 ⟨0,0,0,0,0,1⟩ ⟨0,0,0,0,0,1⟩ ⟨[],[],[],[],[],[]⟩)))
 .E))))))))))))))))))))
theorem UO:aU ⟨true,[]⟩ Tryz.prog (fun l=>([⟨[],[2,3,4,5,6,7,8,9,10,11,12,13,14,15,16,17,18,19,20,22,21,24,23,25,26,28,27,29,30,31,32,33,34,35,36,37,38,39,40,41,42,43,44],[0]⟩]:List bG).getD l ⟨[],[],[]⟩) Tryz.f72=XM:=by kernel_rfl
theorem YI:az Tryz.prog .zero Tryz.f72.params.toList=some ([.P 0],⟨0,0,0,0,0,1⟩):=by kernel_rfl
def lW (p:Int->Bool) (b:Nat) (h:Hp) (φ:Value->Hp->Prop):Prop:=
 ∃ s a l c T,h b=some ⟨rc s a l c,T⟩/\0<=a/\a<=s.length/\s.length<=1000000/\φ (.int .i64 (rn p s a.toNat)) h
def vI:Ct Tryz.prog where
 f:=115
 spec:=fun args h φ=>
  (∃ b,args=[.pointer (some ⟨b,0,none⟩),.func (.func 76) #[] #[]]/\lW oG b h φ)\/(∃ b,args=[.pointer (some ⟨b,0,none⟩),.func (.func 117) #[] #[]]/\lW inB b h φ)\/
  (∃ b,args=[.pointer (some ⟨b,0,none⟩),.func (.func 116) #[] #[]]/\lW yT b h φ)
 ok:=by
  rintro args h φ w hc hH;rcases hc with ⟨b,rfl,s,a,l,c,T,hb,h0,ha,hs,hφ⟩ | ⟨b,rfl,s,a,l,c,T,hb,h0,ha,hs,hφ⟩ | ⟨b,rfl,s,a,l,c,T,hb,h0,ha,hs,hφ⟩
  all_goals
   obtain⟨h,rfl⟩:∃ h',h=Hp.set h' b ⟨rc s a l c,T⟩:=⟨h,set_self hb⟩;obtain⟨n,rfl⟩:∃ n:Nat,a=n:=⟨a.toNat,by omega⟩;rw[Int.toNat_natCast] at hφ
  . exact aay (by omega) hs h φ hφ w hH
  . exact RY (by omega) hs h φ hφ w hH
  . exact aaz (by omega) hs h φ hφ w hH
def Dl (h:Hp) (b:Nat):Int:=
 match h b with
 | some ⟨[_,.int _ a,_,_],_⟩=>a
 | _=>0
theorem rY (h:Hp) (b:Nat) (s:List UInt8) (a l c:Int) (T:Nat):Dl (h.set b ⟨rc s a l c,T⟩) b=a:=by unfold Dl;rw[ay];rfl
section
attribute [local go_sem] aY aX qC uh qA nY qB rP ui zD zC zF au says_again bT
def OX (s:List UInt8) (a:Nat) (p:Int×Int) (T:Rw) (b:Nat) (h:Hp) (_:Nat) (C:Ctx):Prop:=
 ∃ k:Nat,C=⟨[],[],[],[],[],[some (b,0)],h.set b ⟨rc s k (mr p (sub s a k)).1 (mr p (sub s a k)).2,T⟩,cu⟩/\a<=k/\k<=s.length/\jV false s a=(k - a)+jV false s k
set_option maxHeartbeats 8000000 in
def DC:Ct Tryz.prog where
 f:=72
 spec:=fun args h φ=>∃ b s,∃ a:Nat,∃ p:Int×Int,∃ T:Rw,args=[.pointer (some ⟨b,0,none⟩)]/\h b=some ⟨rc s a p.1 p.2,T⟩/\a<=s.length/\s.length<=100000/\0<=p.1/\p.1<=100000/\0<=p.2/\p.2<=100000/\
  φ (.tuple #[]) (h.set b ⟨rc s (a+jV false s a:Nat) (mr p (sub s a (a+jV false s a))).1 (mr p (sub s a (a+jV false s a))).2,T⟩)
 ok:=by
  rintro args h φ w ⟨b,s,a,p,T,rfl,hb,ha,hs,p1,p2,p3,p4,hφ⟩ hH;obtain⟨h,rfl⟩:∃ h',h=Hp.set h' b ⟨rc s a p.1 p.2,T⟩:=⟨h,set_self hb⟩;rw[eY] at hφ;refine aZ Tryz.func72 UO YI [gK,vI] φ (OX s a p T b h) (fun _ C=>(s.length - Dl C.h b).toNat) ⟨[],[],[],[],[],[some (b,0)],h.set b ⟨rc s a p.1 p.2,T⟩,cu⟩ ⟨rfl,rfl,rfl,rfl,rfl,rfl⟩ af ?_ w hH rfl;refine bH ⟨a,by rw[uk,Md];rfl,Nat.le_refl _,ha,by omega⟩ ?_;rintro i bb ss v ll pp hh M ⟨k,hC,h1,h2,h3⟩ hM;cases hC;simp only[rY] at hM;have hbd:=S9 p (sub s a k) p1 p3;rw[xw s h2] at hbd;generalize hq:mr p (sub s a k)=q at *;obtain⟨L,Co⟩:=q;simp only at hbd hM⊢;have hq':∀ (n:Nat) (x L' C':Int),x=(k:Int)+n->k+n<=s.length->0<n->mr p (sub s a (k+n))=(L',C')->jV false s k=n+jV false s (k+n)->
   OX s a p T b h 0 ⟨[],[],[],[],[],[some (b,0)],h.set b ⟨[.string (B s),.int .i64 x,.int .i64 L',.int .i64 C'],T⟩,cu⟩/\((s.length:Int) - Dl (h.set b ⟨[.string (B s),.int .i64 x,.int .i64 L',.int .i64 C'],T⟩) b).toNat<M 0:=by
   intro n x L' C' hx hn hn0 he hsk;have e:([.string (B s),.int .i64 x,.int .i64 L',.int .i64 C']:List Value)=rc s ((k+n:Nat):Int) L' C':=by rw[hx];rfl
   rw[e];refine⟨⟨k+n,by rw[he],by omega,hn,by omega⟩,?_⟩;rw[rY,hM];omega
  have done:jV false s k=0->φ (.tuple #[]) (h.set b ⟨[.string (B s),.int .i64 k,.int .i64 L,.int .i64 Co],T⟩):=by
   intro h0;rw[h0] at h3;have e:a+jV false s a=k:=by omega
   rw[e,hq] at hφ;exact hφ
  by_cases hk:k<s.length
  . have hne:¬ ((k:Int)=s.length):=by omega
    have hlt:(k:Int)<s.length:=by omega
    rcases (by omega:bt s k=10\/bt s k=32\/bt s k=9\/bt s k=13\/bt s k=35\/(bt s k≠10/\bt s k≠32/\bt s k≠9/\bt s k≠13/\bt s k≠35)) with hb | hb | hb | hb | hb | hb
    . have ha':=hq' 1 (k+1) (L+1) 1 (by omega) (by omega) (by omega) (by rw[oQ p s h1 hk,hq,ad,if_pos hb]) (by rw[qE hk (.inl hb)];omega);simp[go_sem,rc,gK,hne,hb]
      (repeat' apply And.intro)<;>first | omega | exact ha'.1 | exact ha'.2
    . have ha':=hq' 1 (k+1) L (Co+1) (by omega) (by omega) (by omega) (by rw[oQ p s h1 hk,hq,ad,if_neg (by omega)]) (by rw[qE hk (.inr (.inl hb))];omega);simp[go_sem,rc,gK,hne,hb]
      (repeat' apply And.intro)<;>first | omega | exact ha'.1 | exact ha'.2
    . have ha':=hq' 1 (k+1) L (Co+1) (by omega) (by omega) (by omega) (by rw[oQ p s h1 hk,hq,ad,if_neg (by omega)]) (by rw[qE hk (.inr (.inr (.inl hb)))];omega);simp[go_sem,rc,gK,hne,hb]
      (repeat' apply And.intro)<;>first | omega | exact ha'.1 | exact ha'.2
    . have ha':=hq' 1 (k+1) L (Co+1) (by omega) (by omega) (by omega) (by rw[oQ p s h1 hk,hq,ad,if_neg (by omega)]) (by rw[qE hk (.inr (.inr (.inr hb)))];omega);simp[go_sem,rc,gK,hne,hb]
      (repeat' apply And.intro)<;>first | omega | exact ha'.1 | exact ha'.2
    . have hle:=zx (p:=yT) (s:=s) (i:=k) (by omega);have hpos:0<rn yT s k:=by rw[iK hk (by rw[hb];rfl)];omega
      have ha':=hq' (rn yT s k) (k+rn yT s k) L (Co+rn yT s k) (by omega) hle hpos (by
       rw[sub_sub s h1 (Nat.le_add_right k _) hle,Df,hq,Fa _ s hle (fun j h1 h2=>by
        have:=(ZG (p:=yT) h1 h2).2;simpa[yT] using this)]) (by rw[WJ hk hb])
      simp[go_sem,rc,gK,vI,lW,hne,hb]
      (repeat' apply And.intro)<;>first | omega | exact ha'.1 | exact ha'.2
    . obtain⟨b1,b2,b3,b4,b5⟩:=hb;have hd:=done (WM hk ⟨b1,b2,b3,b4,b5⟩);simp[go_sem,rc,hne,b1,b2,b3,b4,b5]
      (repeat' apply And.intro)<;>first | omega | exact hd
  . have heq:(k:Int)=s.length:=by omega
    have hd:=done (Ey (by omega) _);simp[go_sem,rc,<- heq];exact hd
def PU:Fm:=(.loop 0 ⟨[(.x 0)],[],[],[],[],[]⟩
 (.need (.lt (.x 1) (.len (.x 0))) (.and (.le (.c 0) (.x 1)) (.lt (.x 1) (.len (.x 0))))
 (.call (.lt (.x 1) (.len (.x 0))) false 146 [(.one (.i .u8 (.at (.x 0) (.x 1))))] (.p (.J 2)) ⟨1,0,0,0,0,0⟩
 (.ite (.and (.lt (.x 1) (.len (.x 0))) (.lt (.c 0) (.x 2)))
 (.N (.R (.add (.x 1) (.c 1)))
 (.again 0 ⟨1,0,1,0,0,0⟩ ⟨2,0,1,0,0,0⟩ ⟨[(.add (.x 1) (.c 1))],[],[],[],[],[]⟩))
 (.ret (.p (.J 1)))))))
theorem JF:aU ⟨true,[]⟩ Tryz.prog (fun l=>([⟨[1],[5,6,7,8,9,10,11,12,13,14,15,16,17],[]⟩]:List bG).getD l ⟨[],[],[]⟩) Tryz.f147=PU:=by kernel_rfl
theorem Q5:az Tryz.prog .zero Tryz.f147.params.toList=some ([.S 0,.J 0],⟨1,0,1,0,0,0⟩):=by kernel_rfl
set_option maxHeartbeats 2000000 in
def FK:Ct Tryz.prog where
 f:=147
 spec:=fun args h φ=>∃ s i,args=[.string (B s),.int .i64 i]/\0<=i/\i<=s.length/\s.length<=1000000/\φ (.int .i64 (i+rn inB s i.toNat)) h
 ok:=by
  rintro args h φ w ⟨s,i,rfl,h0,h1,h2,hφ⟩ hH;obtain⟨a,rfl⟩:∃ n:Nat,i=n:=⟨i.toNat,by omega⟩;rw[Int.toNat_natCast] at hφ;refine aZ Tryz.func147 JF Q5 [jI] φ (fun _ C=>∃ k:Nat,C=⟨[a,k],[],[s],[],[],[],h,cu⟩/\a<=k/\k<=s.length/\rn inB s a=(k - a)+rn inB s k) (fun _ C=>(s.length - C.i.getD 1 0).toNat) ⟨[a],[],[s],[],[],[],h,cu⟩ ⟨rfl,rfl,rfl,rfl,rfl,rfl⟩ af ?_ w hH rfl;refine bH ⟨a,rfl,Nat.le_refl _,by omega,by omega⟩ ?_;rintro i bb ss v ll pp hh M ⟨k,hC,h3,h4,h5⟩ hM;cases hC;have hM':M 0=((s.length:Int) - k).toNat:=hM;have fin:rn inB s k=0->φ (.int .i64 k) h:=fun h0=>by
   rw[h0] at h5;rw[show (k:Int)=(a:Int)+(rn inB s a:Int) by omega];exact hφ
  by_cases hk:k<s.length
  . have hlt:(k:Int)<s.length:=by omega
    by_cases hb:0<jb (bt s k)
    . have hy:=iK (p:=inB) hk (by simp[inB,hb]);simp[go_sem,jI,hlt,hb]
      (repeat' apply And.intro)<;>first | omega | exact⟨k+1,by omega,by omega,by omega,by omega⟩
    . have hn:=ug (p:=inB) hk (by simp[inB];omega);have:=fin hn;simp[go_sem,jI,hlt,hb,this]
  . have hge:¬ ((k:Int)<s.length):=by omega
    have:=fin (mi (by omega));simp[go_sem,jI,hge,this]
def DT:Fm:=(.ite (.eqS (.x 0) (.c [114,101,99]))
 (.ite (.eqS (.x 0) (.c [114,101,99]))
 (.ret (.p (.one (.b (.c true)))))
 (.ret (.p (.one (.b (.c false))))))
 (.ite (.eqS (.x 0) (.c [102,110]))
 (.ite (.eqS (.x 0) (.c [102,110]))
 (.ret (.p (.one (.b (.c true)))))
 (.ret (.p (.one (.b (.c false))))))
 (.ite (.eqS (.x 0) (.c [118,97,114]))
 (.ite (.eqS (.x 0) (.c [118,97,114]))
 (.ret (.p (.one (.b (.c true)))))
 (.ret (.p (.one (.b (.c false))))))
 (.ite (.eqS (.x 0) (.c [105,102]))
 (.ite (.eqS (.x 0) (.c [105,102]))
 (.ret (.p (.one (.b (.c true)))))
 (.ret (.p (.one (.b (.c false))))))
 (.ite (.eqS (.x 0) (.c [101,108,115,101]))
 (.ite (.eqS (.x 0) (.c [101,108,115,101]))
 (.ret (.p (.one (.b (.c true)))))
 (.ret (.p (.one (.b (.c false))))))
 (.ite (.eqS (.x 0) (.c [119,104,105,108,101]))
 (.ite (.eqS (.x 0) (.c [119,104,105,108,101]))
 (.ret (.p (.one (.b (.c true)))))
 (.ret (.p (.one (.b (.c false))))))
 (.ite (.eqS (.x 0) (.c [114,101,116,117,114,110]))
 (.ite (.eqS (.x 0) (.c [114,101,116,117,114,110]))
 (.ret (.p (.one (.b (.c true)))))
 (.ret (.p (.one (.b (.c false))))))
 (.ite (.eqS (.x 0) (.c [112,114,105,110,116]))
 (.ite (.eqS (.x 0) (.c [112,114,105,110,116]))
 (.ret (.p (.one (.b (.c true)))))
 (.ret (.p (.one (.b (.c false))))))
 (.ite (.eqS (.x 0) (.c [116,114,117,101]))
 (.ite (.eqS (.x 0) (.c [116,114,117,101]))
 (.ret (.p (.one (.b (.c true)))))
 (.ret (.p (.one (.b (.c false))))))
 (.ite (.eqS (.x 0) (.c [102,97,108,115,101]))
 (.ite (.eqS (.x 0) (.c [102,97,108,115,101]))
 (.ret (.p (.one (.b (.c true)))))
 (.ret (.p (.one (.b (.c false))))))
 (.ite (.eqS (.x 0) (.c [110,105,108]))
 (.ite (.eqS (.x 0) (.c [110,105,108]))
 (.ret (.p (.one (.b (.c true)))))
 (.ret (.p (.one (.b (.c false))))))
 (.ite (.eqS (.x 0) (.c [109,97,107,101]))
 (.ite (.eqS (.x 0) (.c [109,97,107,101]))
 (.ret (.p (.one (.b (.c true)))))
 (.ret (.p (.one (.b (.c false))))))
 (.ite (.eqS (.x 0) (.c [105,110,116]))
 (.ite (.eqS (.x 0) (.c [105,110,116]))
 (.ret (.p (.one (.b (.c true)))))
 (.ret (.p (.one (.b (.c false))))))
 (.ite (.eqS (.x 0) (.c [98,111,111,108]))
 (.ite (.eqS (.x 0) (.c [98,111,111,108]))
 (.ret (.p (.one (.b (.c true)))))
 (.ret (.p (.one (.b (.c false))))))
 (.ite (.eqS (.x 0) (.c [115,116,114]))
 (.ite (.eqS (.x 0) (.c [115,116,114]))
 (.ret (.p (.one (.b (.c true)))))
 (.ret (.p (.one (.b (.c false))))))
 (.ite (.eqS (.x 0) (.c [99,111,109,112]))
 (.ret (.p (.one (.b (.c true)))))
 (.ret (.p (.one (.b (.c false)))))))))))))))))))))
theorem UQ:aU ⟨true,[]⟩ Tryz.prog (fun l=>([]:List bG).getD l ⟨[],[],[]⟩) Tryz.f118=DT:=by kernel_rfl
theorem YJ:az Tryz.prog .zero Tryz.f118.params.toList=some ([.S 0],⟨0,0,1,0,0,0⟩):=by kernel_rfl
def GR:Fm:=(.mk [(.s (.c [114,101,99])),(.s (.c [102,110])),(.s (.c [118,97,114])),(.s (.c [105,102])),(.s (.c [101,108,115,101])),(.s (.c [119,104,105,108,101])),(.s (.c [114,101,116,117,114,110])),(.s (.c [112,114,105,110,116])),(.s (.c [116,114,117,101])),(.s (.c [102,97,108,115,101])),(.s (.c [110,105,108])),(.s (.c [109,97,107,101])),(.s (.c [105,110,116])),(.s (.c [98,111,111,108])),(.s (.c [115,116,114])),(.s (.c [99,111,109,112]))] 9 16
 (.loop 0 ⟨[(.c 0)],[(.c false)],[],[],[],[]⟩
 (.ite (.lt (.x 0) (.cnt (.x 0)))
 (.N (.X (.x 0) (.x 0))
 (.O (.el (.x 0) (.x 0) 1 0) 1 [(.s (.x 1))] ⟨0,0,1,0,0,0⟩
 (.ite (.eqS (.x 1) (.x 0))
 (.ret (.p (.one (.b (.c true)))))
 (.N (.R (.add (.x 0) (.c 1)))
 (.again 0 ⟨0,0,1,0,1,0⟩ ⟨1,1,1,0,1,0⟩ ⟨[(.add (.x 0) (.c 1))],[(.x 0)],[],[],[],[]⟩)))))
 (.ret (.p (.one (.b (.c false))))))))
theorem Qx:aU ⟨true,[]⟩ Tryz.prog (fun l=>([⟨[2,8],[9,10,4,11,12,13,14,15,16,17],[]⟩]:List bG).getD l ⟨[],[],[]⟩) Tryz.f148=GR:=by kernel_rfl
theorem VV:az Tryz.prog .zero Tryz.f148.params.toList=some ([.S 0],⟨0,0,1,0,0,0⟩):=by kernel_rfl
def wZ:Fm:=(.C 115 [.P 0,(.one (.c (.fn 117)))] (.p (.J 4)) ⟨1,0,0,0,0,0⟩
 (.O (.pt 0 0) 1 [(.s (.x 1))] ⟨0,0,1,0,0,0⟩
 (.O (.pt 0 1) 1 [.J 5] ⟨1,0,0,0,0,0⟩
 (.O (.pt 0 1) 1 [.J 6] ⟨1,0,0,0,0,0⟩
 (.Z 0
 (.Z 0
 (.Z 0
 (.Z 0
 (.Z 0
 (.Z 0
 (.N (.R (.add (.x 6) (.x 4)))
 (.N (.and (.and (.le (.c 0) (.add (.x 6) (.x 4))) (.le (.add (.x 6) (.x 4)) (.len (.x 1)))) (.and (.le (.c 0) (.x 5)) (.le (.x 5) (.add (.x 6) (.x 4)))))
 (.N (.and (.le (.c 0) (.c 0)) (.lt (.c 0) (.len (.sub (.x 1) (.x 5) (.add (.x 6) (.x 4))))))
 (.C 74 [(.one (.i .u8 (.at (.sub (.x 1) (.x 5) (.add (.x 6) (.x 4))) (.c 0))))] (.p (.B 0)) ⟨0,1,0,0,0,0⟩
 (.ite (.x 0)
 (.V 114 [.P 0,.J 4]
 (.ret (.p (.agg [(.i .u8 (.c 2)),.J 1,.J 2,.J 3,(.s (.sub (.x 1) (.x 5) (.add (.x 6) (.x 4))))]))))
 (.C 118 [(.one (.s (.sub (.x 1) (.x 5) (.add (.x 6) (.x 4)))))] (.p (.B 1)) ⟨0,1,0,0,0,0⟩
 (.ite (.x 1)
 (.V 114 [.P 0,.J 4]
 (.ret (.p (.agg [(.i .u8 (.c 6)),.J 1,.J 2,.J 3,(.s (.sub (.x 1) (.x 5) (.add (.x 6) (.x 4))))]))))
 (.V 114 [.P 0,.J 4]
 (.ret (.p (.agg [(.i .u8 (.c 1)),.J 1,.J 2,.J 3,(.s (.sub (.x 1) (.x 5) (.add (.x 6) (.x 4))))])))))))))))))))))))))
theorem UA:aU ⟨true,[]⟩ Tryz.prog (fun l=>([]:List bG).getD l ⟨[],[],[]⟩) Tryz.f75=wZ:=by kernel_rfl
theorem Yu:az Tryz.prog .zero Tryz.f75.params.toList=some ([.P 0,.K 0 1 2 3 0],⟨4,0,1,0,0,1⟩):=by kernel_rfl
def Pz:List (List UInt8):=[[114,101,99],[102,110],[118,97,114],[105,102],[101,108,115,101],[119,104,105,108,101],[114,101,116,117,114,110],[112,114,105,110,116],[116,114,117,101],[102,97,108,115,101],[110,105,108],[109,97,107,101],[105,110,116],[98,111,111,108],[115,116,114],[99,111,109,112]]
def gW (s:List UInt8):Bool:=Pz.contains s
set_option maxHeartbeats 4000000 in
def xR:Ct Tryz.prog where
 f:=118
 spec:=fun args h φ=>∃ s,args=[.string (B s)]/\φ (.bool (gW s)) h
 ok:=by
  rintro args h φ w ⟨s,rfl,hφ⟩ hH;refine aZ Tryz.func118 UQ YJ [] φ bJ aV ⟨[],[],[s],[],[],[],h,cu⟩ ⟨rfl,rfl,rfl,rfl,rfl,rfl⟩ af ?_ w hH rfl;by_cases hs:s∈Pz
  . have e:gW s=true:=by simpa[gW] using hs
    rw[e] at hφ;simp only[Pz,List.mem_cons,List.not_mem_nil,or_false] at hs;rcases hs with rfl | rfl | rfl | rfl | rfl | rfl | rfl | rfl | rfl | rfl | rfl | rfl | rfl | rfl | rfl | rfl
    all_goals simp[DT,go_sem,hφ]
  . have e:gW s=false:=by simpa[gW] using hs
    rw[e] at hφ;simp only[Pz,List.mem_cons,List.not_mem_nil,or_false,not_or] at hs;obtain⟨h1,h2,h3,h4,h5,h6,h7,h8,h9,h10,h11,h12,h13,h14,h15,h16⟩:=hs;simp[DT,go_sem,hφ,h1,h2,h3,h4,h5,h6,h7,h8,h9,h10,h11,h12,h13,h14,h15,h16]
def uY:List Value:=Pz.map fun x=>.string (B x)
set_option maxHeartbeats 4000000 in
def MX:Ct Tryz.prog where
 f:=148
 spec:=fun args h φ=>∃ s,args=[.string (B s)]/\∀ k,bY h k->φ (.bool (gW s)) k
 ok:=by
  rintro args h φ w ⟨s,rfl,hφ⟩ hH;refine aZ Tryz.func148 Qx VV [] φ (fun _ C=>∃ (b:Nat) (i:Nat) (y:Bool),h b=none/\C=⟨[i],[y],[s],[],[⟨some (b,0),16,16⟩],[],h.set b ⟨uY,9⟩,cu⟩/\i<=16/\∀ j,j<i->Pz[j]?≠some s) (fun _ C=>(16 - C.i.getD 0 0).toNat) ⟨[],[],[s],[],[],[],h,cu⟩ ⟨rfl,rfl,rfl,rfl,rfl,rfl⟩ af ?_ w hH rfl;rw[GR,ui];intro b hb;refine bH ⟨b,0,false,hb,rfl,by omega,by omega⟩ ?_;rintro i bb ss v ll pp hh M ⟨b,k,y,hb,hC,h3,h4⟩ hM;cases hC;have hM':M 0=((16:Int) - k).toNat:=hM;have hk:=dU hb ⟨uY,9⟩;by_cases hlt:k<16
  . have hlt':(k:Int)<16:=by omega
    have hx:k<Pz.length:=hlt;have hget:(uY.drop k).take 1=[.string (B Pz[k])]:=by
     rw[List.drop_eq_getElem_cons (by simpa[uY] using hx)];simp[uY]
    have hwl:uY.length=16:=rfl;by_cases he:Pz[k]=s
    . have e:gW s=true:=by rw[<- he];simp[gW]
      have:=hφ _ hk;rw[e] at this;simp[go_sem,hlt',hget,hwl,he,this];omega
    . have hne:∀ j,j<k+1->Pz[j]?≠some s:=fun j hj=>by
       by_cases hjk:j=k
       . subst hjk;rw[List.getElem?_eq_getElem hx];simpa using he
       . exact h4 j (by omega)
      simp[go_sem,hlt',hget,hwl,he];refine⟨by omega,by omega,by omega,⟨b,hb,k+1,by cases y<;>simp,by omega,by simpa using hne⟩,by omega⟩
  . have hge:¬ ((k:Int)<16):=by omega
    have e:gW s=false:=by
     cases hq:gW s
     . rfl
     . exfalso;have hm:s∈Pz:=by simpa[gW] using hq
       obtain⟨j,hj⟩:=List.getElem?_of_mem hm;have hjl:j<16:=(List.getElem?_eq_some_iff.1 hj).1;exact h4 j (by omega) hj
    have:=hφ _ hk;rw[e] at this;simp[go_sem,hge,this]
def gI (k l c n:Int) (x:List UInt8):Value:=.agg #[.int .u8 k,.int .i64 l,.int .i64 c,.int .i64 n,.string (B x)]
def kN (b:Int) (x:List UInt8):Int:=if jb b=2 then 2 else if gW x then 6 else 1
theorem ZT (s:List UInt8) (i j:Nat) (h:i<j) (_hj:j<=s.length):bt (sub s i j) 0=bt s i:=by
 unfold sub;rw[Dn,Nat.add_zero];unfold bt;simp[List.getD_eq_getElem?_getD,h]
set_option maxHeartbeats 4000000 in
def Dv:Ct Tryz.prog where
 f:=75
 spec:=fun args h φ=>∃ b k l c n x s a L Co,∃ T:Rw,args=[.pointer (some ⟨b,0,none⟩),gI k l c n x]/\h b=some ⟨rc s a L Co,T⟩/\0<=a/\a<s.length/\s.length<=100000/\0<=Co/\Co<=500000/\inB (bt s a.toNat)=true/\
  φ (gI (kN (bt s a.toNat) (sub s a.toNat (a.toNat+rn inB s a.toNat))) l c n (sub s a.toNat (a.toNat+rn inB s a.toNat))) (h.set b ⟨rc s (a+rn inB s a.toNat) L (Co+rn inB s a.toNat),T⟩)
 ok:=by
  rintro args h φ w ⟨b,k,l,c,n,x,s,a,L,Co,T,rfl,hb,h0,h1,h2,c0,c1,hin,hφ⟩ hH;obtain⟨h,rfl⟩:∃ h',h=Hp.set h' b ⟨rc s a L Co,T⟩:=⟨h,set_self hb⟩;obtain⟨a,rfl⟩:∃ n:Nat,a=n:=⟨a.toNat,by omega⟩;rw[Int.toNat_natCast] at hφ hin;rw[eY] at hφ;have hle:=zx (p:=inB) (s:=s) (i:=a) (by omega);have hy:=iK (p:=inB) (s:=s) (i:=a) (by omega) hin;have hb0:=ZT s a (a+rn inB s a) (by omega) hle;have hsl:=xw s (i:=a) hle;refine aZ Tryz.func75 UA Yu [vI,fV,xR,gK] φ bJ aV ⟨[k,l,c,n],[],[x],[],[],[some (b,0)],h.set b ⟨rc s a L Co,T⟩,cu⟩ ⟨rfl,rfl,rfl,rfl,rfl,rfl⟩ af ?_ w hH rfl;generalize hN:rn inB s a=N at *;have e1:((a:Int)+(N:Int)).toNat=a+N:=by omega
  have e2:List.drop a (List.take (a+N) s)=sub s a (a+N):=rfl;cases hg:Jc (bt s a)
  . have hk:¬ jb (bt s a)=2:=by simpa[Jc] using hg
    cases hw:gW (sub s a (a+N))
    . rw[kN,if_neg hk,hw] at hφ;simp[wZ,go_sem,rc,vI,lW,fV,xR,gK,hN,e1,e2,hb0,hg,hw]
      (repeat' apply And.intro)<;>first | omega | simpa[rc,gI] using hφ
    . rw[kN,if_neg hk,hw] at hφ;simp[wZ,go_sem,rc,vI,lW,fV,xR,gK,hN,e1,e2,hb0,hg,hw]
      (repeat' apply And.intro)<;>first | omega | simpa[rc,gI] using hφ
  . have hk:jb (bt s a)=2:=by simpa[Jc] using hg
    rw[kN,if_pos hk] at hφ;simp[wZ,go_sem,rc,vI,lW,fV,xR,gK,hN,e1,e2,hb0,hg]
    (repeat' apply And.intro)<;>first | omega | simpa[rc,gI] using hφ
end
end Go.Proofs.YtllbpdllkkcajaaGreatDoor
namespace Go.Proofs
open Go.Shelf
def Tryz.lays161_ren:Go.Shelf.Ren:=⟨fun | 161=>119 | 231=>139 | 227=>140 | 233=>141 | 235=>142 | 228=>155 | 197=>156 | 151=>157 | 260=>166 | 152=>167 | 137=>168 | 119=>170 | 224=>171 | 225=>172 | 217=>173 | 266=>174 | n=>n,fun | 9=>9 | 4=>4 | 3=>3 | 5=>5 | 117=>149 | 116=>148 | 0=>0 | 124=>152 | 105=>161 | 21=>21 | 119=>174 | 46=>139 | 139=>177 | 138=>176 | n=>n,fun | 3=>0 | 4=>1 | n=>n⟩
theorem Tryz.lays161:Go.Proofs.Lays.n161 Tryz.prog Tryz.lays161_ren:={
 mixed:=by kernel_rfl
 f119:=Tryz.func170.trans (congrArg some (by kernel_rfl))
 f137:=Tryz.func168.trans (congrArg some (by kernel_rfl))
 f151:=Tryz.func157.trans (congrArg some (by kernel_rfl))
 f152:=Tryz.func167.trans (congrArg some (by kernel_rfl))
 f161:=Tryz.func119.trans (congrArg some (by kernel_rfl))
 f197:=Tryz.func156.trans (congrArg some (by kernel_rfl))
 f217:=Tryz.func173.trans (congrArg some (by kernel_rfl))
 f224:=Tryz.func171.trans (congrArg some (by kernel_rfl))
 f225:=Tryz.func172.trans (congrArg some (by kernel_rfl))
 f227:=Tryz.func140.trans (congrArg some (by kernel_rfl))
 f228:=Tryz.func155.trans (congrArg some (by kernel_rfl))
 f231:=Tryz.func139.trans (congrArg some (by kernel_rfl))
 f233:=Tryz.func141.trans (congrArg some (by kernel_rfl))
 f235:=Tryz.func142.trans (congrArg some (by kernel_rfl))
 f260:=Tryz.func166.trans (congrArg some (by kernel_rfl))
 f266:=Tryz.func174.trans (congrArg some (by kernel_rfl))
 t0:=Tryz.underlying0
 a0:=Tryz.isAgg0
 z0:=Tryz.sizeOf0
 v0:=Tryz.zeroValue0
 t3:=Tryz.underlying3
 a3:=Tryz.isAgg3
 z3:=Tryz.sizeOf3
 v3:=Tryz.zeroValue3
 t4:=Tryz.underlying4
 a4:=Tryz.isAgg4
 z4:=Tryz.sizeOf4
 v4:=Tryz.zeroValue4
 t5:=Tryz.underlying5
 a5:=Tryz.isAgg5
 z5:=Tryz.sizeOf5
 v5:=Tryz.zeroValue5
 t9:=Tryz.underlying9
 a9:=Tryz.isAgg9
 z9:=Tryz.sizeOf9
 v9:=Tryz.zeroValue9
 t21:=Tryz.underlying21
 a21:=Tryz.isAgg21
 z21:=Tryz.sizeOf21
 v21:=Tryz.zeroValue21
 t46:=Tryz.underlying139
 a46:=Tryz.isAgg139
 z46:=Tryz.sizeOf139
 v46:=Tryz.zeroValue139
 t105:=Tryz.underlying161
 a105:=Tryz.isAgg161
 z105:=Tryz.sizeOf161
 v105:=Tryz.zeroValue161
 t116:=Tryz.underlying148
 a116:=Tryz.isAgg148
 z116:=Tryz.sizeOf148
 t117:=Tryz.underlying149
 a117:=Tryz.isAgg149
 z117:=Tryz.sizeOf149
 v117:=Tryz.zeroValue149
 t119:=Tryz.underlying174
 a119:=Tryz.isAgg174
 z119:=Tryz.sizeOf174
 t124:=Tryz.underlying152
 a124:=Tryz.isAgg152
 z124:=Tryz.sizeOf152
 v124:=Tryz.zeroValue152
 t138:=Tryz.underlying176
 a138:=Tryz.isAgg176
 z138:=Tryz.sizeOf176
 v138:=Tryz.zeroValue176
 t139:=Tryz.underlying177
 a139:=Tryz.isAgg177
 z139:=Tryz.sizeOf177
 v139:=Tryz.zeroValue177
 g3:=by kernel_rfl
 g4:=by kernel_rfl }
open Go.RowKit in
theorem Tryz.strings_TrimLeft_one (s:ByteArray) (c:UInt8) (hc:c.toNat<128) (w:World):
 Calls Tryz.prog 119 #[.string s,.string ⟨#[c]⟩] w fun e w'=>e=.returned (.string ⟨(Lib.trimLeftB s.data.toList c).toArray⟩)/\w'=w:=Any.strings_TrimLeft_one Tryz.lays161 s c hc w
def Tryz.lays137_ren:Go.Shelf.Ren:=⟨fun | 137=>168 | 217=>173 | 266=>174 | n=>n,fun | 9=>9 | 5=>5 | 3=>3 | n=>n,fun | n=>n⟩
theorem Tryz.lays137:Go.Proofs.Lays.n137 Tryz.prog Tryz.lays137_ren:={
 mixed:=by kernel_rfl
 f137:=Tryz.func168.trans (congrArg some (by kernel_rfl))
 f217:=Tryz.func173.trans (congrArg some (by kernel_rfl))
 f266:=Tryz.func174.trans (congrArg some (by kernel_rfl))
 t3:=Tryz.underlying3
 a3:=Tryz.isAgg3
 z3:=Tryz.sizeOf3
 v3:=Tryz.zeroValue3
 t5:=Tryz.underlying5
 a5:=Tryz.isAgg5
 z5:=Tryz.sizeOf5
 v5:=Tryz.zeroValue5
 t9:=Tryz.underlying9
 a9:=Tryz.isAgg9
 z9:=Tryz.sizeOf9
 v9:=Tryz.zeroValue9 }
open Go.RowKit in
theorem Tryz.strings_IndexByte (s:ByteArray) (c:Int) (w:World):
 Calls Tryz.prog 168 #[.string s,.int .u8 c] w fun e w'=>e=.returned (.int .i64 (Lib.indexByte s.data.toList c.toNat.toUInt8))/\w'=w:=Any.strings_IndexByte Tryz.lays137 s c w
def Tryz.lays99_ren:Go.Shelf.Ren:=⟨fun | 99=>126 | 206=>144 | n=>n,fun | 9=>9 | 4=>4 | 3=>3 | n=>n,fun | n=>n⟩
theorem Tryz.lays99:Go.Proofs.Lays.n99 Tryz.prog Tryz.lays99_ren:={
 mixed:=by kernel_rfl
 f99:=Tryz.func126.trans (congrArg some (by kernel_rfl))
 f206:=Tryz.func144.trans (congrArg some (by kernel_rfl))
 t3:=Tryz.underlying3
 a3:=Tryz.isAgg3
 z3:=Tryz.sizeOf3
 v3:=Tryz.zeroValue3
 t4:=Tryz.underlying4
 a4:=Tryz.isAgg4
 z4:=Tryz.sizeOf4
 v4:=Tryz.zeroValue4
 t9:=Tryz.underlying9
 a9:=Tryz.isAgg9
 z9:=Tryz.sizeOf9
 v9:=Tryz.zeroValue9 }
open Go.RowKit Go.Lib in
theorem Tryz.strings_HasPrefix (s p:ByteArray) (w:World):
 Calls Tryz.prog 126 #[.string s,.string p] w fun e w'=>e=.returned (.bool (Lib.hasPrefix s.data.toList p.data.toList))/\w'=w:=Any.strings_HasPrefix Tryz.lays99 s p w
end Go.Proofs
namespace Go.Proofs.YtllbpdllkkcajaaGreatDoor
open Go.RowKit
def AZ:Fm:=(.C 115 [.P 0,(.one (.c (.fn 76)))] (.p (.J 4)) ⟨1,0,0,0,0,0⟩
 (.O (.pt 0 0) 1 [(.s (.x 1))] ⟨0,0,1,0,0,0⟩
 (.O (.pt 0 1) 1 [.J 5] ⟨1,0,0,0,0,0⟩
 (.O (.pt 0 1) 1 [.J 6] ⟨1,0,0,0,0,0⟩
 (.Z 0
 (.Z 0
 (.Z 0
 (.Z 0
 (.Z 0
 (.Z 0
 (.N (.R (.add (.x 6) (.x 4)))
 (.N (.and (.and (.le (.c 0) (.add (.x 6) (.x 4))) (.le (.add (.x 6) (.x 4)) (.len (.x 1)))) (.and (.le (.c 0) (.x 5)) (.le (.x 5) (.add (.x 6) (.x 4)))))
 (.O (.pt 0 1) 1 [.J 7] ⟨1,0,0,0,0,0⟩
 (.O (.pt 0 0) 1 [(.s (.x 2))] ⟨0,0,1,0,0,0⟩
 (.load (.lt (.add (.x 7) (.x 4)) (.len (.x 2))) (.pt 0 0) 1 [(.s (.x 3))] ⟨0,0,1,0,0,0⟩
 (.load (.lt (.add (.x 7) (.x 4)) (.len (.x 2))) (.pt 0 1) 1 [.J 8] ⟨1,0,0,0,0,0⟩
 (.Z 0
 (.Z 0
 (.N (.R (.add (.x 7) (.x 4)))
 (.Z 0
 (.Z 0
 (.need (.lt (.add (.x 7) (.x 4)) (.len (.x 2))) (.nnp 0)
 (.need (.lt (.add (.x 7) (.x 4)) (.len (.x 2))) (.nnp 0)
 (.need (.lt (.add (.x 7) (.x 4)) (.len (.x 2))) (.nnp 0)
 (.need (.lt (.add (.x 7) (.x 4)) (.len (.x 2))) (.nnp 0)
 (.need (.lt (.add (.x 7) (.x 4)) (.len (.x 2))) (.R (.add (.x 8) (.x 4)))
 (.need (.lt (.add (.x 7) (.x 4)) (.len (.x 2))) (.and (.le (.c 0) (.add (.x 8) (.x 4))) (.lt (.add (.x 8) (.x 4)) (.len (.x 3))))
 (.ite (.and (.lt (.add (.x 7) (.x 4)) (.len (.x 2))) (.eqI (.at (.x 3) (.add (.x 8) (.x 4))) (.c 105)))
 (.N (.R (.add (.x 4) (.c 1)))
 (.O (.pt 0 1) 1 [.J 9] ⟨1,0,0,0,0,0⟩
 (.O (.pt 0 0) 1 [(.s (.x 4))] ⟨0,0,1,0,0,0⟩
 (.load (.lt (.add (.x 9) (.add (.x 4) (.c 1))) (.len (.x 4))) (.pt 0 0) 1 [(.s (.x 5))] ⟨0,0,1,0,0,0⟩
 (.load (.lt (.add (.x 9) (.add (.x 4) (.c 1))) (.len (.x 4))) (.pt 0 1) 1 [.J 10] ⟨1,0,0,0,0,0⟩
 (.Z 0
 (.Z 0
 (.N (.R (.add (.x 9) (.add (.x 4) (.c 1))))
 (.Z 0
 (.Z 0
 (.need (.lt (.add (.x 9) (.add (.x 4) (.c 1))) (.len (.x 4))) (.nnp 0)
 (.need (.lt (.add (.x 9) (.add (.x 4) (.c 1))) (.len (.x 4))) (.nnp 0)
 (.need (.lt (.add (.x 9) (.add (.x 4) (.c 1))) (.len (.x 4))) (.nnp 0)
 (.need (.lt (.add (.x 9) (.add (.x 4) (.c 1))) (.len (.x 4))) (.nnp 0)
 (.need (.lt (.add (.x 9) (.add (.x 4) (.c 1))) (.len (.x 4))) (.R (.add (.x 10) (.add (.x 4) (.c 1))))
 (.need (.lt (.add (.x 9) (.add (.x 4) (.c 1))) (.len (.x 4))) (.and (.le (.c 0) (.add (.x 10) (.add (.x 4) (.c 1)))) (.lt (.add (.x 10) (.add (.x 4) (.c 1))) (.len (.x 5))))
 (.call (.lt (.add (.x 9) (.add (.x 4) (.c 1))) (.len (.x 4))) false 117 [(.one (.i .u8 (.at (.x 5) (.add (.x 10) (.add (.x 4) (.c 1))))))] (.p (.B 0)) ⟨0,1,0,0,0,0⟩
 (.ite (.and (.lt (.add (.x 9) (.add (.x 4) (.c 1))) (.len (.x 4))) (.x 0))
 (.ret (.tup [(.agg [(.i .u8 (.c 0)),(.i .i64 (.c 0)),(.i .i64 (.c 0)),(.i .i64 (.c 0)),(.s (.c []))]),(.I (.c 4))]))
 (.C 119 [(.one (.s (.sub (.x 1) (.x 5) (.add (.x 6) (.x 4))))),.W [48]] (.p (.S 6)) ⟨0,0,1,0,0,0⟩
 (.ite (.eqS (.x 6) (.c []))
 (.C 120 [.W [48]] (.tup [.J 11,.J 12]) ⟨2,0,0,0,0,0⟩
 (.ite (.or (.not (.eqI (.x 12) (.c 0))) (.lt (.c 8388607) (.x 11)))
 (.ret (.tup [(.agg [(.i .u8 (.c 0)),(.i .i64 (.c 0)),(.i .i64 (.c 0)),(.i .i64 (.c 0)),(.s (.c []))]),(.I (.c 14))]))
 (.V 114 [.P 0,(.I (.add (.x 4) (.c 1)))]
 (.ret (.tup [(.agg [(.i .u8 (.c 4)),.J 1,.J 2,.J 11,(.s (.x 0))]),(.I (.c 0))])))))
 (.C 120 [.S 6] (.tup [.J 11,.J 12]) ⟨2,0,0,0,0,0⟩
 (.ite (.or (.not (.eqI (.x 12) (.c 0))) (.lt (.c 8388607) (.x 11)))
 (.ret (.tup [(.agg [(.i .u8 (.c 0)),(.i .i64 (.c 0)),(.i .i64 (.c 0)),(.i .i64 (.c 0)),(.s (.c []))]),(.I (.c 14))]))
 (.V 114 [.P 0,(.I (.add (.x 4) (.c 1)))]
 (.ret (.tup [(.agg [(.i .u8 (.c 4)),.J 1,.J 2,.J 11,(.s (.x 0))]),(.I (.c 0))])))))))))))))))))))))))))
 (.O (.pt 0 1) 1 [.J 9] ⟨1,0,0,0,0,0⟩
 (.O (.pt 0 0) 1 [(.s (.x 4))] ⟨0,0,1,0,0,0⟩
 (.load (.lt (.add (.x 9) (.x 4)) (.len (.x 4))) (.pt 0 0) 1 [(.s (.x 5))] ⟨0,0,1,0,0,0⟩
 (.load (.lt (.add (.x 9) (.x 4)) (.len (.x 4))) (.pt 0 1) 1 [.J 10] ⟨1,0,0,0,0,0⟩
 (.Z 0
 (.Z 0
 (.N (.R (.add (.x 9) (.x 4)))
 (.Z 0
 (.Z 0
 (.need (.lt (.add (.x 9) (.x 4)) (.len (.x 4))) (.nnp 0)
 (.need (.lt (.add (.x 9) (.x 4)) (.len (.x 4))) (.nnp 0)
 (.need (.lt (.add (.x 9) (.x 4)) (.len (.x 4))) (.nnp 0)
 (.need (.lt (.add (.x 9) (.x 4)) (.len (.x 4))) (.nnp 0)
 (.need (.lt (.add (.x 9) (.x 4)) (.len (.x 4))) (.R (.add (.x 10) (.x 4)))
 (.need (.lt (.add (.x 9) (.x 4)) (.len (.x 4))) (.and (.le (.c 0) (.add (.x 10) (.x 4))) (.lt (.add (.x 10) (.x 4)) (.len (.x 5))))
 (.call (.lt (.add (.x 9) (.x 4)) (.len (.x 4))) false 117 [(.one (.i .u8 (.at (.x 5) (.add (.x 10) (.x 4)))))] (.p (.B 0)) ⟨0,1,0,0,0,0⟩
 (.ite (.and (.lt (.add (.x 9) (.x 4)) (.len (.x 4))) (.x 0))
 (.ret (.tup [(.agg [(.i .u8 (.c 0)),(.i .i64 (.c 0)),(.i .i64 (.c 0)),(.i .i64 (.c 0)),(.s (.c []))]),(.I (.c 4))]))
 (.C 119 [(.one (.s (.sub (.x 1) (.x 5) (.add (.x 6) (.x 4))))),.W [48]] (.p (.S 6)) ⟨0,0,1,0,0,0⟩
 (.ite (.eqS (.x 6) (.c []))
 (.C 120 [.W [48]] (.tup [.J 11,.J 12]) ⟨2,0,0,0,0,0⟩
 (.ite (.or (.not (.eqI (.x 12) (.c 0))) (.lt (.c 9223372036854775807) (.x 11)))
 (.ret (.tup [(.agg [(.i .u8 (.c 0)),(.i .i64 (.c 0)),(.i .i64 (.c 0)),(.i .i64 (.c 0)),(.s (.c []))]),(.I (.c 14))]))
 (.V 114 [.P 0,.J 4]
 (.ret (.tup [(.agg [(.i .u8 (.c 3)),.J 1,.J 2,.J 11,(.s (.x 0))]),(.I (.c 0))])))))
 (.C 120 [.S 6] (.tup [.J 11,.J 12]) ⟨2,0,0,0,0,0⟩
 (.ite (.or (.not (.eqI (.x 12) (.c 0))) (.lt (.c 9223372036854775807) (.x 11)))
 (.ret (.tup [(.agg [(.i .u8 (.c 0)),(.i .i64 (.c 0)),(.i .i64 (.c 0)),(.i .i64 (.c 0)),(.s (.c []))]),(.I (.c 14))]))
 (.V 114 [.P 0,.J 4]
 (.ret (.tup [(.agg [(.i .u8 (.c 3)),.J 1,.J 2,.J 11,(.s (.x 0))]),(.I (.c 0))]))))))))))))))))))))))))))))))))))))))))))))))))))))
theorem JB:aU ⟨true,[]⟩ Tryz.prog (fun l=>([]:List bG).getD l ⟨[],[],[]⟩) Tryz.f77=AZ:=by kernel_rfl
theorem QY:az Tryz.prog .zero Tryz.f77.params.toList=some ([.P 0,.K 0 1 2 3 0],⟨4,0,1,0,0,1⟩):=by kernel_rfl
def strip:List UInt8->List UInt8
 | a::c::t=>if a.toNat=48 then strip (c::t) else a::c::t
 | l=>l
theorem LQ (d:List UInt8) (hne:d≠[]):strip d=if Lib.trimLeftB d 48=[] then [48] else Lib.trimLeftB d 48:=by
 induction d with
 | nil=>exact absurd rfl hne
 | cons a t ih=>
   have e48:(a==48)=decide (a.toNat=48):=by
    rw[Bool.eq_iff_iff];simp;constructor
    . rintro rfl;rfl
    . intro h;exact UInt8.toNat_inj.1 (by simpa using h)
   cases t with
   | nil=>
     simp only[strip,Lib.trimLeftB,List.dropWhile_cons,List.dropWhile_nil,e48];by_cases h:a.toNat=48
     . have:a=48:=UInt8.toNat_inj.1 (by simpa using h);subst this;simp
     . simp[h]
   | cons c t=>
     simp only[strip];by_cases h:a.toNat=48
     . rw[if_pos h,ih (by simp)];have:Lib.trimLeftB (a::c::t) 48=Lib.trimLeftB (c::t) 48:=by
        simp only[Lib.trimLeftB,List.dropWhile_cons,e48,h,decide_true,if_true]
       rw[this]
     . rw[if_neg h];have:Lib.trimLeftB (a::c::t) 48=a::c::t:=by
        simp only[Lib.trimLeftB,List.dropWhile_cons,e48,h,decide_false];rfl
       rw[this];simp
def pz (k most:Int) (d:List UInt8) (e:Nat):Int×Int×Int×Nat:=
 if (pv (strip d)).2=0/\(pv (strip d)).1<=most then (0,k,(pv (strip d)).1,e) else (14,0,0,0)
def nm (s:List UInt8) (i:Nat):Int×Int×Int×Nat:=
 if rn inB s (i+rn oG s i)=0 then pz 3 9223372036854775807 (sub s i (i+rn oG s i)) (i+rn oG s i)
 else if rn inB s (i+rn oG s i)=1/\bt s (i+rn oG s i)=105 then pz 4 8388607 (sub s i (i+rn oG s i)) (i+rn oG s i+1)
 else (4,0,0,0)
def Nc:Ct Tryz.prog where
 f:=119
 spec:=fun args h φ=>∃ d,args=[.string (B d),.string (B [48])]/\φ (.string (B (Lib.trimLeftB d 48))) h
 ok:=by
  rintro args h φ w ⟨d,rfl,hφ⟩ hH;refine wW (v:=.string (B (Lib.trimLeftB d 48))) ((Tryz.strings_TrimLeft_one (B d) 48 (by decide) w).mono fun e w' ⟨he,hw⟩=>⟨?_,hw.symm⟩) hφ hH;rw[he];simp[B]
def xP:Ct Tryz.prog where
 f:=120
 spec:=fun args h φ=>∃ l,args=[.string (B l)]/\l.length<1000000/\φ (.tuple #[.int .i64 (pv l).1,.int .i64 (pv l).2]) h
 ok:=by rintro args h φ w ⟨l,rfl,hl,hφ⟩ hH;exact wW (KJ l w hl) hφ hH
theorem Ai (d:List UInt8) (c:UInt8):(Lib.trimLeftB d c).length<=d.length:=by
 unfold Lib.trimLeftB;exact (List.dropWhile_sublist _).length_le
section
attribute [local go_sem] aY aX aA ak ax aF aT aJ aW dN gV eQ au says_again bT
theorem aaT:inB 105=true:=by decide
set_option maxRecDepth 100000 in
set_option maxHeartbeats 8000000 in
def sG:Ct Tryz.prog where
 f:=77
 spec:=fun args h φ=>∃ b k l c n x s a L Co,∃ T:Rw,args=[.pointer (some ⟨b,0,none⟩),gI k l c n x]/\h b=some ⟨rc s a L Co,T⟩/\0<=a/\a<s.length/\s.length<=100000/\0<=Co/\Co<=500000/\oG (bt s a.toNat)=true/\
  (if (nm s a.toNat).1=0 then φ (.tuple #[gI (nm s a.toNat).2.1 l c (nm s a.toNat).2.2.1 x,.int .i64 0]) (h.set b ⟨rc s ((nm s a.toNat).2.2.2:Nat) L (Co+((nm s a.toNat).2.2.2:Nat) - a),T⟩)
   else φ (.tuple #[gI 0 0 0 0 [],.int .i64 (nm s a.toNat).1]) h)
 ok:=by
  rintro args h φ w ⟨b,k,l,c,n,x,s,a,L,Co,T,rfl,hb,h0,h1,h2,c0,c1,hdg,hφ⟩ hH;obtain⟨h,rfl⟩:∃ h',h=Hp.set h' b ⟨rc s a L Co,T⟩:=⟨h,set_self hb⟩;obtain⟨a,rfl⟩:∃ n:Nat,a=n:=⟨a.toNat,by omega⟩;rw[Int.toNat_natCast] at hφ hdg;rw[eY] at hφ;have hle:=zx (p:=oG) (s:=s) (i:=a) (by omega);have hy:=iK (p:=oG) (s:=s) (i:=a) (by omega) hdg;have hsl:=xw s (i:=a) hle;have hne:sub s a (a+rn oG s a)≠[]:=by intro e;rw[e] at hsl;simp at hsl;omega
  have hst:=LQ _ hne;have htl:=Ai (sub s a (a+rn oG s a)) 48;have hnm:nm s a=_:=rfl
  conv at hnm=>rhs;unfold nm
  refine aZ Tryz.func77 JB QY [vI,wP,Nc,xP,gK] φ bJ aV ⟨[k,l,c,n],[],[x],[],[],[some (b,0)],h.set b ⟨rc s a L Co,T⟩,cu⟩ ⟨rfl,rfl,rfl,rfl,rfl,rfl⟩ af ?_ w hH rfl;generalize hN:rn oG s a=N at *;generalize hD:sub s a (a+N)=d at *;have e1:((a:Int)+(N:Int)).toNat=a+N:=by omega
  have e1':((a:Int)+((N:Int)+1)).toNat=a+N+1:=by omega
  have e2:List.drop a (List.take (a+N) s)=d:=hD;have hv:∀ kk most e P (m:Int),nm s a=pz kk most d e->strip d=P->(pv P).2=0->(pv P).1<=most->(e:Int)=a+m->φ (.tuple #[.agg #[.int .u8 kk,.int .i64 l,.int .i64 c,.int .i64 (pv P).1,.string (B x)],.int .i64 0]) (h.set b ⟨[.string (B s),.int .i64 (a+m),.int .i64 L,.int .i64 (Co+m)],T⟩):=by
   intro kk most e P m hn hP h3 h4 he;subst hP;have e':pz kk most d e=(0,kk,(pv (strip d)).1,e):=if_pos ⟨h3,h4⟩;rw[hn,e',if_pos rfl] at hφ;simp only[rc,gI,he] at hφ;rw[show Co+((a:Int)+m) - a=Co+m by omega] at hφ;exact hφ
  have ho:∀ kk most e,nm s a=pz kk most d e->¬ ((pv (strip d)).2=0/\(pv (strip d)).1<=most)->φ (.tuple #[.agg #[.int .u8 0,.int .i64 0,.int .i64 0,.int .i64 0,.string (B [])],.int .i64 14]) (h.set b ⟨[.string (B s),.int .i64 a,.int .i64 L,.int .i64 Co],T⟩):=by
   intro kk most e hn h3;have e':pz kk most d e=(14,0,0,0):=if_neg h3;rw[hn,e',if_neg (by decide)] at hφ;exact hφ
  have h4:nm s a=(4,0,0,0)->φ (.tuple #[.agg #[.int .u8 0,.int .i64 0,.int .i64 0,.int .i64 0,.string (B [])],.int .i64 4]) (h.set b ⟨[.string (B s),.int .i64 a,.int .i64 L,.int .i64 Co],T⟩):=by
   intro hn;rw[hn,if_neg (by decide)] at hφ;exact hφ
  clear hφ;rw[<- ae];unfold AZ
  iterate 90 (first | (simp only[ae];simp[go_sem,rc,vI,lW,wP,Nc,xP,gK,hN,e1,e1',e2]) | skip)
  have hP1:Lib.trimLeftB d 48=[]->strip d=[48]:=fun h=>by rw[hst,if_pos h]
  have hP2:¬ Lib.trimLeftB d 48=[]->strip d=Lib.trimLeftB d 48:=fun h=>by rw[hst,if_neg h]
  clear hst hN hD e2 hb hH;by_cases hk:a+N<s.length
  . have hkz:(a:Int)+N<s.length:=by omega
    by_cases h105:bt s (a+N)=105
    . have hyy:=iK (p:=inB) hk (by rw[h105];exact aaT);by_cases hk1:a+N+1<s.length
      . have hkz1:(a:Int)+(N+1)<s.length:=by omega
        cases hin:inB (bt s (a+N+1))
        . rw[ug hk1 hin] at hyy;have hn:nm s a=pz 4 8388607 d (a+N+1):=by rw[hnm,hyy,if_neg (by decide),if_pos ⟨rfl,h105⟩]
          clear h4 hnm;simp[hkz,hkz1,h105];by_cases ht:Lib.trimLeftB d 48=[]
          . have hP:=hP1 ht;by_cases he:(pv [48]).2=0
            . by_cases hm:8388607<(pv [48]).1
              . simp[ht,he,hm]
                (repeat' apply And.intro)<;>first | omega | exact ho _ _ _ hn (by rw[hP];omega)
              . simp[ht,he,hm]
                (repeat' apply And.intro)<;>first | omega | exact hv _ _ _ _ _ hn hP he (by omega) (by omega)
            . simp[ht,he]
              (repeat' apply And.intro)<;>first | omega | exact ho _ _ _ hn (by rw[hP];omega)
          . have hP:=hP2 ht;by_cases he:(pv (Lib.trimLeftB d 48)).2=0
            . by_cases hm:8388607<(pv (Lib.trimLeftB d 48)).1
              . simp[ht,he,hm]
                (repeat' apply And.intro)<;>first | omega | exact ho _ _ _ hn (by rw[hP];omega)
              . simp[ht,he,hm]
                (repeat' apply And.intro)<;>first | omega | exact hv _ _ _ _ _ hn hP he (by omega) (by omega)
            . simp[ht,he]
              (repeat' apply And.intro)<;>first | omega | exact ho _ _ _ hn (by rw[hP];omega)
        . have:=iK hk1 hin;have hf:=h4 (by rw[hnm,if_neg (by omega),if_neg (by omega)]);simp[hkz,hkz1,h105]
          (repeat' apply And.intro)<;>first | omega | exact hf
      . have hkz1:¬ ((a:Int)+(N+1)<s.length):=by omega
        rw[mi (p:=inB) (s:=s) (i:=a+N+1) (by omega)] at hyy;have hn:nm s a=pz 4 8388607 d (a+N+1):=by rw[hnm,hyy,if_neg (by decide),if_pos ⟨rfl,h105⟩]
        clear h4 hnm;simp[hkz,hkz1,h105];by_cases ht:Lib.trimLeftB d 48=[]
        . have hP:=hP1 ht;by_cases he:(pv [48]).2=0
          . by_cases hm:8388607<(pv [48]).1
            . simp[ht,he,hm]
              (repeat' apply And.intro)<;>first | omega | exact ho _ _ _ hn (by rw[hP];omega)
            . simp[ht,he,hm]
              (repeat' apply And.intro)<;>first | omega | exact hv _ _ _ _ _ hn hP he (by omega) (by omega)
          . simp[ht,he]
            (repeat' apply And.intro)<;>first | omega | exact ho _ _ _ hn (by rw[hP];omega)
        . have hP:=hP2 ht;by_cases he:(pv (Lib.trimLeftB d 48)).2=0
          . by_cases hm:8388607<(pv (Lib.trimLeftB d 48)).1
            . simp[ht,he,hm]
              (repeat' apply And.intro)<;>first | omega | exact ho _ _ _ hn (by rw[hP];omega)
            . simp[ht,he,hm]
              (repeat' apply And.intro)<;>first | omega | exact hv _ _ _ _ _ hn hP he (by omega) (by omega)
          . simp[ht,he]
            (repeat' apply And.intro)<;>first | omega | exact ho _ _ _ hn (by rw[hP];omega)
    . cases hin:inB (bt s (a+N))
      . have hn:nm s a=pz 3 9223372036854775807 d (a+N):=by rw[hnm,if_pos (ug hk hin)]
        clear h4 hnm;simp[hkz,h105];by_cases ht:Lib.trimLeftB d 48=[]
        . have hP:=hP1 ht;by_cases he:(pv [48]).2=0
          . by_cases hm:9223372036854775807<(pv [48]).1
            . simp[ht,he,hm]
              (repeat' apply And.intro)<;>first | omega | exact ho _ _ _ hn (by rw[hP];omega)
            . simp[ht,he,hm]
              (repeat' apply And.intro)<;>first | omega | exact hv _ _ _ _ _ hn hP he (by omega) (by omega)
          . simp[ht,he]
            (repeat' apply And.intro)<;>first | omega | exact ho _ _ _ hn (by rw[hP];omega)
        . have hP:=hP2 ht;by_cases he:(pv (Lib.trimLeftB d 48)).2=0
          . by_cases hm:9223372036854775807<(pv (Lib.trimLeftB d 48)).1
            . simp[ht,he,hm]
              (repeat' apply And.intro)<;>first | omega | exact ho _ _ _ hn (by rw[hP];omega)
            . simp[ht,he,hm]
              (repeat' apply And.intro)<;>first | omega | exact hv _ _ _ _ _ hn hP he (by omega) (by omega)
          . simp[ht,he]
            (repeat' apply And.intro)<;>first | omega | exact ho _ _ _ hn (by rw[hP];omega)
      . have:=iK hk hin;have hf:=h4 (by rw[hnm,if_neg (by omega),if_neg (fun h=>h105 h.2)]);simp[hkz,h105]
        (repeat' apply And.intro)<;>first | omega | exact hf
  . have hkz:¬ ((a:Int)+N<s.length):=by omega
    have hn:nm s a=pz 3 9223372036854775807 d (a+N):=by rw[hnm,if_pos (mi (by omega))]
    clear h4 hnm;simp[hkz];by_cases ht:Lib.trimLeftB d 48=[]
    . have hP:=hP1 ht;by_cases he:(pv [48]).2=0
      . by_cases hm:9223372036854775807<(pv [48]).1
        . simp[ht,he,hm]
          (repeat' apply And.intro)<;>first | omega | exact ho _ _ _ hn (by rw[hP];omega)
        . simp[ht,he,hm]
          (repeat' apply And.intro)<;>first | omega | exact hv _ _ _ _ _ hn hP he (by omega) (by omega)
      . simp[ht,he]
        (repeat' apply And.intro)<;>first | omega | exact ho _ _ _ hn (by rw[hP];omega)
    . have hP:=hP2 ht;by_cases he:(pv (Lib.trimLeftB d 48)).2=0
      . by_cases hm:9223372036854775807<(pv (Lib.trimLeftB d 48)).1
        . simp[ht,he,hm]
          (repeat' apply And.intro)<;>first | omega | exact ho _ _ _ hn (by rw[hP];omega)
        . simp[ht,he,hm]
          (repeat' apply And.intro)<;>first | omega | exact hv _ _ _ _ _ hn hP he (by omega) (by omega)
      . simp[ht,he]
        (repeat' apply And.intro)<;>first | omega | exact ho _ _ _ hn (by rw[hP];omega)
def Um:Fm:=(.mk [(.s (.c [38,38])),(.s (.c [124,124])),(.s (.c [61,61])),(.s (.c [33,61])),(.s (.c [60,61])),(.s (.c [62,61])),(.s (.c [43])),(.s (.c [45])),(.s (.c [42])),(.s (.c [47])),(.s (.c [37])),(.s (.c [60])),(.s (.c [62])),(.s (.c [33])),(.s (.c [61])),(.s (.c [40])),(.s (.c [41])),(.s (.c [123])),(.s (.c [125])),(.s (.c [91])),(.s (.c [93])),(.s (.c [44])),(.s (.c [59])),(.s (.c [58])),(.s (.c [46]))] 9 25
 (.ret (.p (.L 0))))
theorem Qz:aU ⟨true,[]⟩ Tryz.prog (fun l=>([]:List bG).getD l ⟨[],[],[]⟩) Tryz.f123=Um:=by kernel_rfl
theorem VW:az Tryz.prog .zero Tryz.f123.params.toList=some ([],⟨0,0,0,0,0,0⟩):=by kernel_rfl
def GU:Fm:=(.O (.pt 0 0) 1 [(.s (.x 1))] ⟨0,0,1,0,0,0⟩
 (.C 126 [.S 1,.S 0] (.p (.B 0)) ⟨0,1,0,0,0,0⟩
 (.ret (.p (.B 0)))))
theorem Qy:jK ⟨true,[]⟩ Tryz.prog (fun l=>([]:List bG).getD l ⟨[],[],[]⟩) Tryz.f125 [.S 0,.one (.adr (.pt 0 0))] ⟨0,0,1,0,0,1⟩=GU:=by kernel_rfl
def ZW:Fm:=(.loop 0 ⟨[(.c 0),(.c 0)],[],[],[],[],[]⟩
 (.ite (.lt (.x 1) (.cnt (.x 0)))
 (.N (.X (.x 1) (.x 0))
 (.O (.el (.x 0) (.x 1) 1 0) 1 [(.s (.x 0))] ⟨0,0,1,0,0,0⟩
 (.C 125 [.S 0,.P 0] (.p (.B 0)) ⟨0,1,0,0,0,0⟩
 (.ite (.x 0)
 (.ret (.p (.J 1)))
 (.N (.R (.add (.x 1) (.c 1)))
 (.again 0 ⟨0,0,0,0,1,1⟩ ⟨2,0,0,0,1,1⟩ ⟨[(.x 0),(.add (.x 1) (.c 1))],[],[],[],[],[]⟩))))))
 (.ret (.p (.I (.c (-1)))))))
theorem XU:jK ⟨true,[]⟩ Tryz.prog (fun l=>([⟨[4,8],[9,10,5,11,12,13,14,15,16,17,18],[]⟩]:List bG).getD l ⟨[],[],[]⟩) Tryz.f124 [.L 0,.one (.clo 125 [0])] ⟨0,0,0,0,1,1⟩=ZW:=by kernel_rfl
def NQ:Fm:=(.O (.pt 0 0) 1 [(.s (.x 1))] ⟨0,0,1,0,0,0⟩
 (.O (.pt 0 1) 1 [.J 4] ⟨1,0,0,0,0,0⟩
 (.Z 0
 (.Z 0
 (.Z 0
 (.Z 0
 (.N (.and (.le (.c 0) (.x 4)) (.le (.x 4) (.len (.x 1))))
 (.C 123 [] (.p (.L 0)) ⟨0,0,0,0,1,0⟩
 (.new [(.s (.sub (.x 1) (.x 4) (.len (.x 1))))] 9
 (.C 124 [.L 0,(.one (.clo 125 [1]))] (.p (.J 5)) ⟨1,0,0,0,0,0⟩
 (.ite (.lt (.x 5) (.c 0))
 (.ret (.tup [(.agg [(.i .u8 (.c 0)),(.i .i64 (.c 0)),(.i .i64 (.c 0)),(.i .i64 (.c 0)),(.s (.c []))]),(.I (.c 4))]))
 (.O (.el (.x 0) (.x 5) 1 0) 1 [(.s (.x 2))] ⟨0,0,1,0,0,0⟩
 (.N (.X (.x 5) (.x 0))
 (.N (.X (.x 5) (.x 0))
 (.O (.el (.x 0) (.x 5) 1 0) 1 [(.s (.x 3))] ⟨0,0,1,0,0,0⟩
 (.V 114 [.P 0,(.I (.len (.x 3)))]
 (.ret (.tup [(.agg [(.i .u8 (.c 7)),.J 1,.J 2,.J 3,(.s (.x 2))]),(.I (.c 0))]))))))))))))))))))
theorem UN:aU ⟨true,[]⟩ Tryz.prog (fun l=>([]:List bG).getD l ⟨[],[],[]⟩) Tryz.f79=NQ:=by kernel_rfl
theorem YH:az Tryz.prog .zero Tryz.f79.params.toList=some ([.P 0,.K 0 1 2 3 0],⟨4,0,1,0,0,1⟩):=by kernel_rfl
def dM:List (List UInt8):=[[38,38],[124,124],[61,61],[33,61],[60,61],[62,61],[43],[45],[42],[47],[37],[60],[62],[33],[61],[40],[41],[123],[125],[91],[93],[44],[59],[58],[46]]
def sg (rest:List UInt8):List UInt8:=(dM.find? fun p=>p.isPrefixOf rest).getD []
def strs (l:List (List UInt8)):List Value:=l.map fun x=>.string (B x)
def x9 (f:List UInt8->Bool):List (List UInt8)->Nat->Int
 | [],_=>-1
 | x::t,k=>if f x=true then k else x9 f t (k+1)
theorem AV (f:List UInt8->Bool):∀ (ps:List (List UInt8)) (k:Nat),(x9 f ps k=-1/\ps.find? f=none)\/∃ j x,ps[j]? = some x/\x9 f ps k=(k+j:Nat)/\ps.find? f=some x
 | [],k=>.inl ⟨rfl,rfl⟩
 | x::t,k=>by
   by_cases hx:f x=true
   . exact .inr ⟨0,x,rfl,by rw[x9,if_pos hx];rfl,by rw[List.find?_cons,hx]⟩
   . have hx':f x=false:=by simpa using hx
     rw[x9,if_neg hx,List.find?_cons,hx'];rcases AV f t (k+1) with h | ⟨j,y,h1,h2,h3⟩
     . exact .inl h
     . exact .inr ⟨j+1,y,h1,by rw[h2];congr 1;omega,h3⟩
theorem gQ {h:Hp} {b:Nat} {ps:List (List UInt8)} {T:TypeId} (hb:h b=some ⟨strs ps,T⟩) {k:Nat} {x:List UInt8} (hx:ps[k]? = some x):hread h (some (b,k)) 1=some [.string (B x)]:=by
 have hlt:=(List.getElem?_eq_some_iff.1 hx).1;have hg:=(List.getElem?_eq_some_iff.1 hx).2;rw[bI hb,if_pos (by simp[strs];omega)];have:(strs ps).drop k=.string (B ps[k])::(strs ps).drop (k+1):=by
  rw[List.drop_eq_getElem_cons (by simp[strs];omega)];simp[strs]
 simp only[this,hg];rfl
def MZ:Ct Tryz.prog where
 f:=123
 spec:=fun args h φ=>args=[]/\∀ b,h b=none->φ (.slice (some ⟨b,0,none⟩) 25 25) (h.set b ⟨strs dM,9⟩)
 ok:=by
  rintro args h φ w ⟨rfl,hφ⟩ hH;refine aZ Tryz.func123 Qz VW [] φ bJ aV ⟨[],[],[],[],[],[],h,cu⟩ ⟨rfl,rfl,rfl,rfl,rfl,rfl⟩ af ?_ w hH rfl;intro b hb;exact hφ b hb
def vG:Ct Tryz.prog where
 f:=126
 spec:=fun args h φ=>∃ s p,args=[.string (B s),.string (B p)]/\φ (.bool (p.isPrefixOf s)) h
 ok:=by
  rintro args h φ w ⟨s,p,rfl,hφ⟩ hH;refine wW (v:=.bool (p.isPrefixOf s)) ((Tryz.strings_HasPrefix (B s) (B p) w).mono fun e w' ⟨he,hw⟩=>⟨?_,hw.symm⟩) hφ hH;rw[he];simp[B,Lib.hasPrefix]
def Dz:Ct Tryz.prog where
 f:=125
 spec:=fun args h φ=>∃ p k rest T,args=[.string (B p),.pointer (some ⟨k,0,none⟩)]/\h k=some ⟨[.string (B rest)],T⟩/\φ (.bool (p.isPrefixOf rest)) h
 ok:=by
  rintro args h φ w ⟨p,k,rest,T,rfl,hk,hφ⟩ hH;refine oU Tryz.func125 Qy [vG] φ bJ aV ⟨[],[],[p],[],[],[some (k,0)],h,cu⟩ ⟨rfl,rfl,rfl,rfl,rfl,rfl⟩ af ?_ w hH rfl;rw[<- ae];unfold GU
  iterate 90 (first | (simp only[ae];simp[go_sem,vG,bI hk,hφ]) | skip)
set_option maxHeartbeats 2000000 in
def aaM:Ct Tryz.prog where
 f:=124
 spec:=fun args h φ=>∃ b k ps rest T T',args=[.slice (some ⟨b,0,none⟩) ps.length ps.length,.func (.func 125) #[] #[.pointer (some ⟨k,0,none⟩)]]/\h b=some ⟨strs ps,T⟩/\h k=some ⟨[.string (B rest)],T'⟩/\ps.length<=1000/\
  φ (.int .i64 (x9 (fun p=>p.isPrefixOf rest) ps 0)) h
 ok:=by
  rintro args h φ w ⟨b,k,ps,rest,T,T',rfl,hb,hk,hl,hφ⟩ hH;refine oU Tryz.func124 XU [Dz] φ (fun _ C=>∃ j:Nat,C=⟨[0,j],[],[],[],[⟨some (b,0),ps.length,ps.length⟩],[some (k,0)],h,cu⟩/\j<=ps.length/\x9 (fun p=>p.isPrefixOf rest) ps 0=x9 (fun p=>p.isPrefixOf rest) (ps.drop j) j) (fun _ C=>(ps.length - C.i.getD 1 0).toNat)
   ⟨[],[],[],[],[⟨some (b,0),ps.length,ps.length⟩],[some (k,0)],h,cu⟩ ⟨rfl,rfl,rfl,rfl,rfl,rfl⟩ af ?_ w hH rfl
  refine bH ⟨0,rfl,by omega,rfl⟩ ?_;rintro i bb ss v ll pp hh M ⟨j,hC,h3,h4⟩ hM;cases hC;have hM':M 0=((ps.length:Int) - j).toNat:=hM;rw[h4] at hφ;by_cases hj:j<ps.length
  . have hjz:(j:Int)<ps.length:=by omega
    have hg:=List.getElem?_eq_getElem hj;have hrd:=gQ hb hg;rw[List.drop_eq_getElem_cons hj] at h4 hφ;generalize ps[j]=x at *;cases hx:x.isPrefixOf rest
    . rw[x9,if_neg (by rw[hx];decide)] at h4 hφ;rw[<- ae]
      iterate 90 (first | (simp only[ae];simp[go_sem,Dz,hjz,hrd,hk,hx]) | skip)
      (repeat' apply And.intro)<;>first | omega | exact⟨j+1,by omega,by omega,h4⟩
    . rw[x9,if_pos hx] at hφ;rw[<- ae]
      iterate 90 (first | (simp only[ae];simp[go_sem,Dz,hjz,hrd,hk,hx,hφ]) | skip)
  . have hjz:¬ ((j:Int)<ps.length):=by omega
    rw[List.drop_eq_nil_of_le (by omega)] at hφ;rw[<- ae]
    iterate 90 (first | (simp only[ae];simp[go_sem,hjz]) | skip)
    exact hφ
theorem yh {f:List UInt8->Bool} {x:List UInt8} (h:dM.find? f=some x):x≠[]/\x.length<=2/\f x=true:=by
 have hm:=List.mem_of_find?_eq_some h;have hall:dM.all (fun x=>decide (x≠[])&&decide (x.length<=2))=true:=by decide
 have:=List.all_eq_true.1 hall x hm;simp only[Bool.and_eq_true,decide_eq_true_eq] at this;exact⟨this.1,this.2,List.find?_some h⟩
def TB:Ct Tryz.prog where
 f:=124
 spec:=fun args h φ=>∃ b k,args=[.slice (some ⟨b,0,none⟩) 25 25,.func (.func 125) #[] #[.pointer (some ⟨k,0,none⟩)]]/\∃ rest T T',h b=some ⟨strs dM,T⟩/\h k=some ⟨[.string (B rest)],T'⟩/\
  φ (.int .i64 (x9 (fun p=>p.isPrefixOf rest) dM 0)) h
 ok:=by
  rintro args h φ w ⟨b,k,rfl,rest,T,T',hb,hk,hφ⟩ hH;exact aaM.ok _ h φ w ⟨b,k,dM,rest,T,T',rfl,hb,hk,by decide,hφ⟩ hH
set_option maxRecDepth 100000 in
set_option maxHeartbeats 8000000 in
def Js:Ct Tryz.prog where
 f:=79
 spec:=fun args h φ=>∃ b k l c n x s a L Co,∃ T:Rw,args=[.pointer (some ⟨b,0,none⟩),gI k l c n x]/\h b=some ⟨rc s a L Co,T⟩/\0<=a/\a<=s.length/\s.length<=100000/\0<=Co/\Co<=500000/\
  (if sg (s.drop a.toNat)=[] then φ (.tuple #[gI 0 0 0 0 [],.int .i64 4]) h
   else φ (.tuple #[gI 7 l c n (sg (s.drop a.toNat)),.int .i64 0]) (h.set b ⟨rc s (a+(sg (s.drop a.toNat)).length) L (Co+(sg (s.drop a.toNat)).length),T⟩))
 ok:=by
  rintro args h φ w ⟨b,k,l,c,n,x,s,a,L,Co,T,rfl,hb,h0,h1,h2,c0,c1,hφ⟩ hH;obtain⟨h,rfl⟩:∃ h',h=Hp.set h' b ⟨rc s a L Co,T⟩:=⟨h,set_self hb⟩;obtain⟨a,rfl⟩:∃ n:Nat,a=n:=⟨a.toNat,by omega⟩;rw[Int.toNat_natCast,eY] at hφ;refine bQ (aZ Tryz.func79 UN YH [MZ,TB,gK] (fun v k=>∃ k',bY k' k/\φ v k') bJ aV ⟨[k,l,c,n],[],[x],[],[],[some (b,0)],h.set b ⟨rc s a L Co,T⟩,cu⟩ ⟨rfl,rfl,rfl,rfl,rfl,rfl⟩ af ?_ w hH rfl);rw[<- ae];unfold NQ
  iterate 8 (simp only[ae];simp[go_sem,rc,MZ])
  refine⟨by omega,fun b1 hb1=>?_⟩;simp only[ae];simp[go_sem];intro b2 hb2;have n1:b≠b1:=fun e=>by rw[<- e,ay] at hb1;cases hb1
  have n2:b1≠b2:=fun e=>by rw[<- e,ay] at hb2;cases hb2
  have n3:b≠b2:=fun e=>by rw[<- e,bf _ n1,ay] at hb2;cases hb2
  have hs2:List.drop a (List.take s.length s)=List.drop a s:=by rw[List.take_length]
  obtain⟨R,hR⟩:∃ R:List Value,R=[.string (B s),.int .i64 a,.int .i64 L,.int .i64 Co]:=⟨_,rfl⟩;have hle:∀ R',bY (h.set b ⟨R',T⟩) ((((h.set b ⟨R,T⟩).set b1 ⟨strs dM,9⟩).set b2 ⟨[.string (B (s.drop a))],9⟩).set b ⟨R',T⟩):=fun R' c o hc=>by
   rw[<- hR] at hb1 hb2;simp only[Hp.set] at hc hb1 hb2⊢;by_cases e0:c=b
   . rw[if_pos e0] at hc ⊢;exact hc
   . rw[if_neg e0] at hc⊢;by_cases e2:c=b2
     . subst e2;rw[if_neg n2.symm,if_neg n3.symm,hc] at hb2;cases hb2
     . rw[if_neg e2];by_cases e1:c=b1
       . subst e1;rw[if_neg n1.symm,hc] at hb1;cases hb1
       . rw[if_neg e1,if_neg e0];exact hc
  have kb:(((h.set b ⟨R,T⟩).set b1 ⟨strs dM,9⟩).set b2 ⟨[.string (B (s.drop a))],9⟩) b=some ⟨R,T⟩:=by rw[bf _ n3,bf _ n1,ay]
  have k1:(((h.set b ⟨R,T⟩).set b1 ⟨strs dM,9⟩).set b2 ⟨[.string (B (s.drop a))],9⟩) b1=some ⟨strs dM,9⟩:=by rw[bf _ n2,ay]
  have k2:(((h.set b ⟨R,T⟩).set b1 ⟨strs dM,9⟩).set b2 ⟨[.string (B (s.drop a))],9⟩) b2=some ⟨[.string (B (s.drop a))],9⟩:=by rw[ay]
  rw[<- hR];generalize ((h.set b ⟨R,T⟩).set b1 ⟨strs dM,9⟩).set b2 ⟨[.string (B (s.drop a))],9⟩=H at *;subst hR;have hl0:=hle [.string (B s),.int .i64 a,.int .i64 L,.int .i64 Co];rw[<- set_self kb] at hl0;unfold sg at hφ;rcases AV (fun p=>p.isPrefixOf (s.drop a)) dM 0 with ⟨f1,f2⟩ | ⟨j,p,f1,f2,f3⟩
  . rw[f2] at hφ
    iterate 90 (first | (simp only[ae];simp[go_sem,TB,gK,bM.val,k1,k2,f1]) | skip)
    exact⟨_,hl0,hφ⟩
  . obtain⟨p1,p2,_⟩:=yh f3;rw[f3] at hφ;have hφ':φ (.tuple #[gI 7 l c n p,.int .i64 0]) (h.set b ⟨rc s (a+p.length) L (Co+p.length),T⟩):=by simpa[p1] using hφ
    have hj:j<25:=(List.getElem?_eq_some_iff.1 f1).1;have hrd:=gQ k1 f1;have hlp:=hle [.string (B s),.int .i64 (a+p.length),.int .i64 L,.int .i64 (Co+p.length)];rw[Nat.zero_add] at f2;have hjn:¬ ((j:Int)<0):=by omega
    iterate 90 (first | (simp only[ae];simp[go_sem,TB,gK,rc,bM.val,k1,k2,kb,f2,hrd,hjn]) | skip)
    (repeat' apply And.intro)<;>first | omega | exact⟨_,hlp,hφ'⟩
end
def hx (b:Int):Int:=if 48<=b/\b<=57 then b - 48 else if 97<=b/\b<=102 then b - 87 else if 65<=b/\b<=70 then b - 55 else -1
def ub (n:Int):UInt8:=UInt8.ofNat n.toNat
def rdA:Nat->List UInt8->Nat->List UInt8->Option (List UInt8×Nat)
 | 0,_,_,_=>none
 | n+1,s,i,acc=>
   if s.length<=i\/bt s i<32\/126<bt s i then none
   else if bt s i=34 then some (acc,i+1)
   else if bt s i≠92 then rdA n s (i+1) (acc++[ub (bt s i)])
   else if s.length<=i+1 then none
   else if bt s (i+1)=34\/bt s (i+1)=92 then rdA n s (i+2) (acc++[ub (bt s (i+1))])
   else if bt s (i+1)=110 then rdA n s (i+2) (acc++[10])
   else if bt s (i+1)=116 then rdA n s (i+2) (acc++[9])
   else if bt s (i+1)=120 then
    if i+3<s.length/\0<=hx (bt s (i+2))/\0<=hx (bt s (i+3)) then rdA n s (i+4) (acc++[ub (16*hx (bt s (i+2))+hx (bt s (i+3)))]) else none
   else none
def Ag (s:List UInt8):Option (List UInt8×Nat):=if s.length=0\/bt s 0≠34 then none else rdA s.length s 1 []
theorem Zr {b:Int} (h:0<=hx b):32<=b/\b<=126:=by
 unfold hx at h;split at h
 . omega
 . split at h
   . omega
   . split at h<;>omega
theorem kQ:∀ (n:Nat) {s:List UInt8} {i:Nat} {acc t:List UInt8} {e:Nat},rdA n s i acc=some (t,e)->i<e/\e<=s.length/\∀ j,i<=j->j<e->bt s j≠10
 | 0,s,i,acc,t,e,h=>by cases h
 | n+1,s,i,acc,t,e,h=>by
   have two:∀ {a:Nat} {x:List UInt8},32<=bt s i->i<s.length->(∀ j,i<j->j<a->bt s j≠10)->i<a->rdA n s a x=some (t,e)->i<e/\e<=s.length/\∀ j,i<=j->j<e->bt s j≠10:=by
    intro a x h1 h2 h3 h4 h5;obtain⟨r1,r2,r3⟩:=kQ n h5;refine⟨by omega,r2,fun j j1 j2=>?_⟩;rcases Nat.lt_or_ge j a with ha | ha
    . by_cases hj:j=i
      . subst hj;omega
      . exact h3 j (by omega) ha
    . exact r3 j ha j2
   rw[rdA] at h;split at h
   . cases h
   . rename_i h0;have h0':i<s.length/\32<=bt s i:=by omega
     split at h
     . cases h;exact⟨by omega,by omega,fun j j1 j2=>by rw[show j=i by omega];omega⟩
     . split at h
       . exact two h0'.2 h0'.1 (fun j j1 j2=>by omega) (by omega) h
       . split at h
         . cases h
         . split at h
           . exact two h0'.2 h0'.1 (fun j j1 j2=>by rw[show j=i+1 by omega];omega) (by omega) h
           . split at h
             . exact two h0'.2 h0'.1 (fun j j1 j2=>by rw[show j=i+1 by omega];omega) (by omega) h
             . split at h
               . exact two h0'.2 h0'.1 (fun j j1 j2=>by rw[show j=i+1 by omega];omega) (by omega) h
               . split at h
                 . split at h
                   . rename_i hx3;have e2:=Zr hx3.2.1;have e3:=Zr hx3.2.2;exact two h0'.2 h0'.1 (fun j j1 j2=>by
                      rcases (by omega:j=i+1\/j=i+2\/j=i+3) with rfl | rfl | rfl<;>omega) (by omega) h
                   . cases h
                 . cases h
theorem lu (s:List UInt8) (e j:Nat) (h:j<e):bt (s.take e) j=bt s j:=by
 unfold bt;simp[List.getD_eq_getElem?_getD,h]
theorem nz:∀ (n:Nat) {s:List UInt8} {i:Nat} {acc t:List UInt8} {e:Nat},rdA n s i acc=some (t,e)->rdA n (s.take e) i acc=some (t,e)
 | 0,s,i,acc,t,e,h=>by cases h
 | n+1,s,i,acc,t,e,h=>by
   obtain⟨a1,a2,_⟩:=kQ (n+1) h;have hl:(s.take e).length=e:=by rw[List.length_take];omega
   have b0:bt (s.take e) i=bt s i:=lu s e i a1;rw[rdA] at h⊢;rw[hl,b0];split at h
   . cases h
   . rename_i h0;rw[if_neg (by omega)];split at h
     . rename_i h1;rw[if_pos h1];exact h
     . rename_i h1;rw[if_neg h1];split at h
       . rename_i h2;rw[if_pos h2];exact nz n h
       . rename_i h2;rw[if_neg h2];split at h
         . cases h
         . rename_i h3;split at h
           . rename_i h4;have:=(kQ n h).1;rw[if_neg (by omega),lu s e (i+1) (by omega),if_pos h4];exact nz n h
           . rename_i h4;split at h
             . rename_i h5;have:=(kQ n h).1;rw[if_neg (by omega),lu s e (i+1) (by omega),if_neg h4,if_pos h5];exact nz n h
             . rename_i h5;split at h
               . rename_i h6;have:=(kQ n h).1;rw[if_neg (by omega),lu s e (i+1) (by omega),if_neg h4,if_neg h5,if_pos h6];exact nz n h
               . rename_i h6;split at h
                 . rename_i h7;split at h
                   . rename_i h8;have:=(kQ n h).1;rw[if_neg (by omega),lu s e (i+1) (by omega),if_neg h4,if_neg h5,if_neg h6,if_pos h7,lu s e (i+2) (by omega),lu s e (i+3) (by omega),if_pos ⟨by omega,h8.2⟩];exact nz n h
                   . cases h
                 . cases h
theorem ny:∀ (n m:Nat) {s:List UInt8} {i:Nat} {acc:List UInt8},s.length<n+i->s.length<m+i->rdA n s i acc=rdA m s i acc
 | 0,0,s,i,acc,_,_=>rfl
 | 0,m+1,s,i,acc,h,_=>by rw[rdA,rdA,if_pos (.inl (by omega))]
 | n+1,0,s,i,acc,_,h=>by rw[rdA,rdA,if_pos (.inl (by omega))]
 | n+1,m+1,s,i,acc,h1,h2=>by
   rw[rdA,rdA,ny n m (by omega) (by omega),ny n m (i:=i+2) (by omega) (by omega),ny n m (i:=i+2) (acc:=acc++[10]) (by omega) (by omega),ny n m (i:=i+2) (acc:=acc++[9]) (by omega) (by omega),ny n m (i:=i+4) (by omega) (by omega)]
theorem tZ {s t:List UInt8} {e:Nat} (h:Ag s=some (t,e)):1<e/\e<=s.length/\∀ j,j<e->bt s j≠10:=by
 unfold Ag at h;split at h
 . cases h
 . obtain⟨r1,r2,r3⟩:=kQ _ h;refine⟨r1,r2,fun j hj=>?_⟩;by_cases h0:j=0
   . subst h0;omega
   . exact r3 j (by omega) hj
theorem Wp {s t:List UInt8} {e:Nat} (h:Ag s=some (t,e)):Ag (s.take e)=some (t,e):=by
 obtain⟨r1,r2,_⟩:=tZ h;unfold Ag at h⊢;have hl:(s.take e).length=e:=by rw[List.length_take];omega
 split at h
 . cases h
 . rename_i h0;rw[hl,lu s e 0 (by omega),if_neg (by omega),ny e s.length (by omega) (by omega)];exact nz _ h
structure Tk1 where
 f:Int
 k:Int
 x:List UInt8
 n:Int
 e:Nat
def one (s:List UInt8) (i:Nat):Tk1:=
 if jb (bt s i)=1\/jb (bt s i)=2 then ⟨0,kN (bt s i) (sub s i (i+rn inB s i)),sub s i (i+rn inB s i),0,i+rn inB s i⟩
 else if jb (bt s i)=3 then ⟨(nm s i).1,(nm s i).2.1,[],(nm s i).2.2.1,(nm s i).2.2.2⟩
 else if bt s i=34 then (match Ag (s.drop i) with | some (t,n)=>⟨0,5,t,0,i+n⟩ | none=>⟨4,0,[],0,0⟩)
 else if sg (s.drop i)=[] then ⟨4,0,[],0,0⟩ else ⟨0,7,sg (s.drop i),0,i+(sg (s.drop i)).length⟩
structure Tok where
 k:Int
 l:Int
 c:Int
 n:Int
 x:List UInt8
 deriving DecidableEq
def Tok.cs (t:Tok):List Value:=[.int .u8 t.k,.int .i64 t.l,.int .i64 t.c,.int .i64 t.n,.string (B t.x)]
def oM (l:List Tok):List Value:=l.flatMap Tok.cs
theorem xy (l:List Tok):(oM l).length=l.length*5:=by
 induction l with
 | nil=>rfl
 | cons a l ih=>rw[oM,List.flatMap_cons,List.length_append,<- oM,ih];simp[Tok.cs];omega
theorem O9 (l m:List Tok):oM (l++m)=oM l++oM m:=by simp[oM]
theorem Pe (t:Tok):oM [t]=t.cs:=by simp[oM]
def Ia:Nat->List UInt8->Nat->Int×Int->List Tok->(Int×Int×Int)×List Tok
 | 0,_,_,_,acc=>((0,0,0),acc)
 | m+1,s,i,p,acc=>
   if s.length<=i+jV false s i then ((0,0,0),acc++[⟨8,(mr p (sub s i (i+jV false s i))).1,(mr p (sub s i (i+jV false s i))).2,0,[]⟩])
   else if (one s (i+jV false s i)).f=0 then
    Ia m s (one s (i+jV false s i)).e (mr p (sub s i (one s (i+jV false s i)).e))
     (acc++[⟨(one s (i+jV false s i)).k,(mr p (sub s i (i+jV false s i))).1,(mr p (sub s i (i+jV false s i))).2,(one s (i+jV false s i)).n,(one s (i+jV false s i)).x⟩])
   else (((one s (i+jV false s i)).f,(mr p (sub s i (i+jV false s i))).1,(mr p (sub s i (i+jV false s i))).2),[])
def cZ (s:List UInt8):(Int×Int×Int)×List Tok:=Ia (s.length+1) s 0 (1,1) []
theorem XL {f:List UInt8->Bool} {x:List UInt8} (h:dM.find? f=some x):∀ j,j<x.length->bt x j≠10:=by
 have hm:=List.mem_of_find?_eq_some h;have hall:dM.all (fun x=>decide (∀ j,j<x.length->bt x j≠10))=true:=by decide +kernel
 simpa using List.all_eq_true.1 hall x hm
theorem Fg (a b:List UInt8) {j:Nat} (h:j<a.length):bt (a++b) j=bt a j:=by
 unfold bt;simp[List.getD_eq_getElem?_getD,List.getElem?_append_left h]
theorem abp {s:List UInt8} {i:Nat} (h:sg (s.drop i)≠[]):i+(sg (s.drop i)).length<=s.length/\∀ j,i<=j->j<i+(sg (s.drop i)).length->bt s j≠10:=by
 unfold sg at h⊢;cases hf:dM.find? (fun p=>p.isPrefixOf (s.drop i)) with
 | none=>rw[hf] at h;exact absurd rfl h
 | some x=>
   have h1:=(yh hf).2.2;have h2:=XL hf;obtain⟨t,ht⟩:=List.isPrefixOf_iff_prefix.1 h1;have hl:=congrArg List.length ht;rw[List.length_append,List.length_drop] at hl;have hp:=(yh hf).1;have hp':0<x.length:=List.length_pos_iff.2 hp;simp only[Option.getD_some];refine⟨by omega,fun j j1 j2=>?_⟩;have:=h2 (j - i) (by omega);rw[<- Fg x t (by omega),ht,Dn,show i+(j - i)=j by omega] at this;exact this
theorem Oq {k most:Int} {d:List UInt8} {e:Nat} (h:(pz k most d e).1=0):(pz k most d e).2.2.2=e:=by
 unfold pz at h⊢;split
 . rfl
 . rename_i h1;rw[if_neg h1] at h;exact absurd h (by decide)
theorem Eh {s:List UInt8} {i:Nat} (hi:i<s.length) (h:(one s i).f=0):i<(one s i).e/\(one s i).e<=s.length/\∀ j,i<=j->j<(one s i).e->bt s j≠10:=by
 have flat:∀ {p:Int->Bool},p 10=false->∀ j,i<=j->j<i+rn p s i->bt s j≠10:=fun hp j j1 j2 e=>by
  have:=(ZG j1 j2).2;rw[e,hp] at this;cases this
 unfold one at h⊢;split
 . rename_i hk;have hin:inB (bt s i)=true:=by simp only[inB,decide_eq_true_eq];omega
   have:=iK (p:=inB) hi hin;exact⟨by simp only;omega,zx (by omega),flat (by decide)⟩
 . rename_i h1;rw[if_neg h1] at h;split
   . rename_i h2;rw[if_pos h2] at h;have hdg:oG (bt s i)=true:=by simp only[oG,decide_eq_true_eq];exact h2
     have hy:=iK (p:=oG) hi hdg;have hle:=zx (p:=oG) (s:=s) (i:=i) (by omega);have hfl:=flat (p:=oG) (by decide);simp only at h⊢;unfold nm at h⊢;split
     . rename_i h3;rw[if_pos h3] at h;rw[Oq h];exact⟨by omega,hle,hfl⟩
     . rename_i h3;rw[if_neg h3] at h;split
       . rename_i h4;rw[if_pos h4] at h;rw[Oq h];have hlt:i+rn oG s i<s.length:=by
          by_cases hq:i+rn oG s i<s.length
          . exact hq
          . exact absurd (mi (by omega)) h3
         refine⟨by omega,by omega,fun j j1 j2=>?_⟩;by_cases hj:j=i+rn oG s i
         . subst hj;omega
         . exact hfl j j1 (by omega)
       . rename_i h4;rw[if_neg h4] at h;exact absurd h (by decide)
   . rename_i h2;rw[if_neg h2] at h;split
     . rename_i h3;rw[if_pos h3] at h;cases hq:Ag (s.drop i) with
       | none=>rw[hq] at h;simp at h
       | some r=>
         obtain⟨t,n⟩:=r;obtain⟨r1,r2,r3⟩:=tZ hq;rw[List.length_drop] at r2;refine⟨by simp only;omega,by simp only;omega,fun j j1 j2=>?_⟩;have:=r3 (j - i) (by simp only at j2;omega);rw[Dn,show i+(j - i)=j by omega] at this;exact this
     . rename_i h3;rw[if_neg h3] at h;split
       . rename_i h4;rw[if_pos h4] at h;exact absurd h (by decide)
       . rename_i h4;obtain⟨r1,r2⟩:=abp h4;have:0<(sg (s.drop i)).length:=List.length_pos_iff.2 h4;exact⟨by simp only;omega,r1,r2⟩
theorem Ye {s:List UInt8} {i j:Nat} (p:Int×Int) (hij:i<=j) (hj:j<s.length) (h:(one s j).f=0):
 mr p (sub s i (one s j).e)=((mr p (sub s i j)).1,(mr p (sub s i j)).2+((one s j).e:Int) - j):=by
 obtain⟨h1,h2,h3⟩:=Eh hj h;rw[sub_sub s hij (Nat.le_of_lt h1) h2,Df];obtain⟨n,hn⟩:=Nat.exists_eq_add_of_le (Nat.le_of_lt h1);rw[hn] at h2 h3⊢;rw[Fa _ s h2 h3];simp;omega
end Go.Proofs.YtllbpdllkkcajaaGreatDoor
