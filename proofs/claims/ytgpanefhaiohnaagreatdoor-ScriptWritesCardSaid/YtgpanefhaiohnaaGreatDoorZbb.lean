/- hindcastlaw29: texts joined: NumG, NumH, NumI, NumJ, NumK, NumLA, NumL, NumM, CmdA, ScrA, ScrB, ScrC, ScrD, ScrE, EngA, EngB, EngC, EngD, EngM. -/
import Derived.Test.YtgpanefhaiohnaaGreatDoorZba
namespace Go.Proofs.YtgpanefhaiohnaaGreatDoor
open Go.RowKit
theorem wrap_u64 (x:Int):IntKind.u64.wrap x=x % 18446744073709551616:=by
 simp[IntKind.wrap,IntKind.signed,IntKind.bits]
abbrev dv (a b c d e f g h:Int):Value:=.agg #[.int .i64 a,.int .i64 b,.int .i64 c,.int .i64 d,.int .i64 e,.int .i64 f,.int .i64 g,.int .i64 h]
abbrev du (u:Int):Value:=dv (u % 256) (u / 256 % 256) (u / 256 / 256 % 256) (u / 256 / 256 / 256 % 256) (u / 256 / 256 / 256 / 256 % 256) (u / 256 / 256 / 256 / 256 / 256 % 256) (u / 256 / 256 / 256 / 256 / 256 / 256 % 256) (u / 256 / 256 / 256 / 256 / 256 / 256 / 256 % 256)
set_option maxHeartbeats 2000000 in
set_option maxRecDepth 100000 in
theorem SC (n u:Int) (hu:IntKind.u64.wrap n=u) (h0:0≤u) (h1:u≤18446744073709551615) (w:World):
 Calls Tryz.prog 68 #[.int .i64 n] w fun e w'=>e=.returned (du u)∧Below w.heap.size w w':=by
 go_enter Tryz.func68,Tryz.ntmps68
 go_wp2
 refine wp_loop_rounds 9 ?_
 repeat (rw[rounds_succ];go_wp2)
 exact bodyPost_ret (v:=du u) (by simp[results,Tryz.results68,go_sem]) rfl ⟨rfl,(by (repeat (first | (with_reducible exact Below.refl _ _) | (with_reducible assumption) | (with_reducible refine Below.drew ?_) | (with_reducible refine below_draws ?_ _) | ((with_reducible refine Below.setCell ?_ ?_ _);rotate_left;(first | (with_reducible exact Nat.le_refl _) | (focus (simp;done)) | (focus (simp;omega)) | omega)) | ((with_reducible refine Below.alloc ?_ ?_ _);rotate_left;(first | (with_reducible exact Nat.le_refl _) | (focus (simp;done)) | (focus (simp;omega)) | omega)))))⟩
def I4 (a b c d e f g h:Int):Int:=a+256*(b+256*(c+256*(d+256*(e+256*(f+256*(g+256*h))))))
theorem WX (a b c d e f g h:Int):((((((h*256+g)*256+f)*256+e)*256+d)*256+c)*256+b)*256+a=I4 a b c d e f g h:=by unfold I4;omega
set_option maxHeartbeats 2000000 in
set_option maxRecDepth 100000 in
theorem oO (a b c d e f g h:Int) (a0:0≤a) (a1:a≤255) (b0:0≤b) (b1:b≤255) (c0:0≤c) (c1:c≤255) (d0:0≤d) (d1:d≤255) (e0:0≤e) (e1:e≤255) (f0:0≤f) (f1:f≤255) (g0:0≤g) (g1:g≤255) (h0:0≤h) (h1:h≤255) (w:World):
 Calls Tryz.prog 71 #[dv a b c d e f g h] w fun e' w'=>e'=.returned (.int .i64 (wrap64 (I4 a b c d e f g h)))∧Below w.heap.size w w':=by
 go_enter Tryz.func71,Tryz.ntmps71
 go_wp2
 refine wp_loop_rounds 9 ?_
 repeat (rw[rounds_succ];go_wp2)
 go_ret
 exact⟨Xr (by rw[← WX]),(by (repeat (first | (with_reducible exact Below.refl _ _) | (with_reducible assumption) | (with_reducible refine Below.drew ?_) | (with_reducible refine below_draws ?_ _) | ((with_reducible refine Below.setCell ?_ ?_ _);rotate_left;(first | (with_reducible exact Nat.le_refl _) | (focus (simp;done)) | (focus (simp;omega)) | omega)) | ((with_reducible refine Below.alloc ?_ ?_ _);rotate_left;(first | (with_reducible exact Nat.le_refl _) | (focus (simp;done)) | (focus (simp;omega)) | omega)))))⟩
set_option maxHeartbeats 2000000 in
set_option maxRecDepth 100000 in
theorem Qy (a b c d e f g h:Int) (a0:0≤a) (a1:a≤255) (b0:0≤b) (b1:b≤255) (c0:0≤c) (c1:c≤255) (d0:0≤d) (d1:d≤255) (e0:0≤e) (e1:e≤255) (f0:0≤f) (f1:f≤255) (g0:0≤g) (g1:g≤255) (h0:0≤h) (h1:h≤255) (w:World):
 Calls Tryz.prog 106 #[dv a b c d e f g h,dv 1 0 0 0 0 0 0 0] w fun e' w'=>e'=.returned (dv ((a+1) % 256) ((b+((a+1) / 256)) % 256) ((c+((b+((a+1) / 256)) / 256)) % 256) ((d+((c+((b+((a+1) / 256)) / 256)) / 256)) % 256) ((e+((d+((c+((b+((a+1) / 256)) / 256)) / 256)) / 256)) % 256) ((f+((e+((d+((c+((b+((a+1) / 256)) / 256)) / 256)) / 256)) / 256)) % 256) ((g+((f+((e+((d+((c+((b+((a+1) / 256)) / 256)) / 256)) / 256)) / 256)) / 256)) % 256) ((h+((g+((f+((e+((d+((c+((b+((a+1) / 256)) / 256)) / 256)) / 256)) / 256)) / 256)) / 256)) % 256))∧Below w.heap.size w w':=by
 go_enter Tryz.func106,Tryz.ntmps106
 go_wp2
 refine wp_loop_rounds 9 ?_
 repeat (rw[rounds_succ];go_wp2;try (go_quiet (fail);go_wp2))
 refine bodyPost_ret (v:=dv ((a+1) % 256) ((b+((a+1) / 256)) % 256) ((c+((b+((a+1) / 256)) / 256)) % 256) ((d+((c+((b+((a+1) / 256)) / 256)) / 256)) % 256) ((e+((d+((c+((b+((a+1) / 256)) / 256)) / 256)) / 256)) % 256) ((f+((e+((d+((c+((b+((a+1) / 256)) / 256)) / 256)) / 256)) / 256)) % 256) ((g+((f+((e+((d+((c+((b+((a+1) / 256)) / 256)) / 256)) / 256)) / 256)) / 256)) % 256) ((h+((g+((f+((e+((d+((c+((b+((a+1) / 256)) / 256)) / 256)) / 256)) / 256)) / 256)) / 256)) % 256)) (by simp[results,Tryz.results106,go_sem]) rfl ⟨rfl,?_⟩
 (repeat (first | (with_reducible exact Below.refl _ _) | (with_reducible assumption) | (with_reducible refine Below.drew ?_) | (with_reducible refine below_draws ?_ _) | ((with_reducible refine Below.setCell ?_ ?_ _);rotate_left;(first | (with_reducible exact Nat.le_refl _) | (focus (simp;done)) | (focus (simp;omega)) | omega)) | ((with_reducible refine Below.alloc ?_ ?_ _);rotate_left;(first | (with_reducible exact Nat.le_refl _) | (focus (simp;done)) | (focus (simp;omega)) | omega))))
set_option maxHeartbeats 2000000 in
set_option maxRecDepth 100000 in
theorem zl (a b c d e f g h:Int) (a0:0≤a) (a1:a≤255) (b0:0≤b) (b1:b≤255) (c0:0≤c) (c1:c≤255) (d0:0≤d) (d1:d≤255) (e0:0≤e) (e1:e≤255) (f0:0≤f) (f1:f≤255) (g0:0≤g) (g1:g≤255) (h0:0≤h) (h1:h≤255) (w:World):
 Calls Tryz.prog 70 #[dv a b c d e f g h] w fun e' w'=>e'=.returned (dv ((255 - a+1) % 256) ((255 - b+((255 - a+1) / 256)) % 256) ((255 - c+((255 - b+((255 - a+1) / 256)) / 256)) % 256) ((255 - d+((255 - c+((255 - b+((255 - a+1) / 256)) / 256)) / 256)) % 256) ((255 - e+((255 - d+((255 - c+((255 - b+((255 - a+1) / 256)) / 256)) / 256)) / 256)) % 256) ((255 - f+((255 - e+((255 - d+((255 - c+((255 - b+((255 - a+1) / 256)) / 256)) / 256)) / 256)) / 256)) % 256) ((255 - g+((255 - f+((255 - e+((255 - d+((255 - c+((255 - b+((255 - a+1) / 256)) / 256)) / 256)) / 256)) / 256)) / 256)) % 256) ((255 - h+((255 - g+((255 - f+((255 - e+((255 - d+((255 - c+((255 - b+((255 - a+1) / 256)) / 256)) / 256)) / 256)) / 256)) / 256)) / 256)) % 256))∧Below w.heap.size w w':=by
 go_enter Tryz.func70,Tryz.ntmps70
 go_wp2
 refine wp_loop_rounds 9 ?_
 repeat (rw[rounds_succ];go_wp2_with fail)
 refine (Qy (255 - a) (255 - b) (255 - c) (255 - d) (255 - e) (255 - f) (255 - g) (255 - h) (by omega) (by omega) (by omega) (by omega) (by omega) (by omega) (by omega) (by omega) (by omega) (by omega) (by omega) (by omega) (by omega) (by omega) (by omega) (by omega) _).mono ?_
 rintro e' w1 ⟨rfl,hb1⟩
 obtain⟨hc1,hf1⟩:=Nw hb1
 have hz1:w.heap.size+1<w1.heap.size:=by have:=hb1.size;simp at this;omega
 go_wp2
 have q1:Below w.heap.size w w1:=Below.trans (by (repeat (first | (with_reducible exact Below.refl _ _) | (with_reducible assumption) | (with_reducible refine Below.drew ?_) | (with_reducible refine below_draws ?_ _) | ((with_reducible refine Below.setCell ?_ ?_ _);rotate_left;(first | (with_reducible exact Nat.le_refl _) | (focus (simp;done)) | (focus (simp;omega)) | omega)) | ((with_reducible refine Below.alloc ?_ ?_ _);rotate_left;(first | (with_reducible exact Nat.le_refl _) | (focus (simp;done)) | (focus (simp;omega)) | omega))))) (hb1.mono (by simp;omega))
 refine bodyPost_ret (v:=dv ((255 - a+1) % 256) ((255 - b+((255 - a+1) / 256)) % 256) ((255 - c+((255 - b+((255 - a+1) / 256)) / 256)) % 256) ((255 - d+((255 - c+((255 - b+((255 - a+1) / 256)) / 256)) / 256)) % 256) ((255 - e+((255 - d+((255 - c+((255 - b+((255 - a+1) / 256)) / 256)) / 256)) / 256)) % 256) ((255 - f+((255 - e+((255 - d+((255 - c+((255 - b+((255 - a+1) / 256)) / 256)) / 256)) / 256)) / 256)) % 256) ((255 - g+((255 - f+((255 - e+((255 - d+((255 - c+((255 - b+((255 - a+1) / 256)) / 256)) / 256)) / 256)) / 256)) / 256)) % 256) ((255 - h+((255 - g+((255 - f+((255 - e+((255 - d+((255 - c+((255 - b+((255 - a+1) / 256)) / 256)) / 256)) / 256)) / 256)) / 256)) / 256)) % 256)) (by simp[results,Tryz.results70,go_sem,hc1]) rfl ⟨rfl,?_⟩
 (repeat (first | (with_reducible exact Below.refl _ _) | (with_reducible assumption) | (with_reducible refine Below.drew ?_) | (with_reducible refine below_draws ?_ _) | ((with_reducible refine Below.setCell ?_ ?_ _);rotate_left;(first | (with_reducible exact Nat.le_refl _) | (focus (simp;done)) | (focus (simp;omega)) | omega)) | ((with_reducible refine Below.alloc ?_ ?_ _);rotate_left;(first | (with_reducible exact Nat.le_refl _) | (focus (simp;done)) | (focus (simp;omega)) | omega))))
theorem Fh (u:Int) (h0:0≤u) (h1:u≤18446744073709551615):I4 (u % 256) (u / 256 % 256) (u / 256 / 256 % 256) (u / 256 / 256 / 256 % 256) (u / 256 / 256 / 256 / 256 % 256) (u / 256 / 256 / 256 / 256 / 256 % 256) (u / 256 / 256 / 256 / 256 / 256 / 256 % 256) (u / 256 / 256 / 256 / 256 / 256 / 256 / 256 % 256)=u:=by
 unfold I4;omega
theorem zH (a b c d e f g h:Int) (_a0:0≤a) (_a1:a≤255) (_b0:0≤b) (_b1:b≤255) (_c0:0≤c) (_c1:c≤255) (_d0:0≤d) (_d1:d≤255) (_e0:0≤e) (_e1:e≤255) (_f0:0≤f) (_f1:f≤255) (_g0:0≤g) (_g1:g≤255) (_h0:0≤h) (_h1:h≤255):I4 ((255 - a+1) % 256) ((255 - b+((255 - a+1) / 256)) % 256) ((255 - c+((255 - b+((255 - a+1) / 256)) / 256)) % 256) ((255 - d+((255 - c+((255 - b+((255 - a+1) / 256)) / 256)) / 256)) % 256) ((255 - e+((255 - d+((255 - c+((255 - b+((255 - a+1) / 256)) / 256)) / 256)) / 256)) % 256) ((255 - f+((255 - e+((255 - d+((255 - c+((255 - b+((255 - a+1) / 256)) / 256)) / 256)) / 256)) / 256)) % 256) ((255 - g+((255 - f+((255 - e+((255 - d+((255 - c+((255 - b+((255 - a+1) / 256)) / 256)) / 256)) / 256)) / 256)) / 256)) % 256) ((255 - h+((255 - g+((255 - f+((255 - e+((255 - d+((255 - c+((255 - b+((255 - a+1) / 256)) / 256)) / 256)) / 256)) / 256)) / 256)) / 256)) % 256)=(18446744073709551616 - I4 a b c d e f g h) % 18446744073709551616:=by
 unfold I4;omega
end Go.Proofs.YtgpanefhaiohnaaGreatDoor
namespace Go.Proofs.YtgpanefhaiohnaaGreatDoor
open Go.RowKit
attribute [local go_sem] JW dJ fQ fO jK oz
def dC (l:List UInt8):Nat:=l.foldl (fun n c=>10*n+(c.toNat - 48)) 0
def dR (c:UInt8):Bool:=decide (48≤c.toNat)&&decide (c.toNat≤57)
theorem qw (l:List UInt8) (c:UInt8):dC (l++[c])=10*dC l+(c.toNat - 48):=by simp[dC]
theorem take_snoc (d:List UInt8) (k:Nat) (h:k<d.length):d.take (k+1)=d.take k++[d[k]]:=by
 rw[List.take_succ_eq_append_getElem h]
theorem rO (d:List UInt8) (k:Nat) (h:k<d.length):bt d k=(d[k].toNat:Int):=by
 simp[bt,h]
theorem XL (l m:List UInt8):dC l≤dC (l++m):=by
 have hgen:∀ (m:List UInt8) (a:Nat),a≤m.foldl (fun n (c:UInt8)=>10*n+(c.toNat - 48)) a:=by
  intro m
  induction m with
  | nil=>intro a;simp
  | cons c m ih=>intro a;simp only[List.foldl_cons];have:=ih (10*a+(c.toNat - 48));omega
 unfold dC;rw[List.foldl_append];exact hgen _ _
def iD (neg:Bool) (d:List UInt8):Int×Int:=
 if d.all dR then
  (if neg then (if dC d≤9223372036854775808 then (-(dC d:Int),0) else (0,14)) else (if dC d<9223372036854775808 then ((dC d:Int),0) else (0,14)))
 else (0,2)
def pv (l:List UInt8):Int×Int:=
 match l with
 | []=>(0,2)
 | c::d=>if c=45 then (if d=[]∨d.head? = some 48 then (0,2) else iD true d) else (if c=48∧d≠[] then (0,2) else iD false (c::d))
structure F5 (d:List UInt8) (k x:Nat) (o:Bool):Prop where
 dig:(d.take k).all dR=true
 le:x≤9223372036854775808
 eq:o=false→x=dC (d.take k)
 big:o=true→9223372036854775808<dC (d.take k)
theorem zQ (d:List UInt8):F5 d 0 0 false:=⟨by simp,by omega,by simp[dC],by simp⟩
theorem jP {d:List UInt8} {k:Nat} (hk:k<d.length) (h:bt d k<48∨57<bt d k) (neg:Bool):iD neg d=(0,2):=by
 have hn:¬ (d.all dR=true):=by
  rw[List.all_eq_true]
  intro hall
  have:=hall d[k] (List.getElem_mem hk)
  rw[rO d k hk] at h
  simp[dR] at this
  omega
 unfold iD;rw[if_neg hn]
theorem zO {d:List UInt8} {k:Nat} (hk:k<d.length) (h0:48≤bt d k) (h1:bt d k≤57) (h:(d.take k).all dR=true):(d.take (k+1)).all dR=true:=by
 rw[take_snoc d k hk,List.all_append,h]
 rw[rO d k hk] at h0 h1
 simp[dR];omega
theorem vz {d:List UInt8} {k:Nat} (hk:k<d.length) (h0:48≤bt d k):(dC (d.take (k+1)):Int)=10*(dC (d.take k):Int)+(bt d k - 48):=by
 rw[take_snoc d k hk,qw,rO d k hk]
 rw[rO d k hk] at h0
 omega
theorem DJ {d:List UInt8} {k x:Nat} {o:Bool} (hk:k<d.length) (h0:48≤bt d k) (h1:bt d k≤57) (hi:F5 d k x o) (ht:-(x:Int)<(-9223372036854775808+(bt d k - 48)).tdiv 10):F5 d (k+1) x true:=by
 have hv:=vz hk h0
 refine⟨zO hk h0 h1 hi.dig,hi.le,by simp,fun _=>?_⟩
 cases o with
 | true=>have:=hi.big rfl;omega
 | false=>
   have:=hi.eq rfl
   have e:(-9223372036854775808+(bt d k - 48)).tdiv 10=-((9223372036854775808 - (bt d k - 48)) / 10):=by
    rw[show (-9223372036854775808+(bt d k - 48))=-(9223372036854775808 - (bt d k - 48)) by omega,Int.neg_tdiv,Int.tdiv_eq_ediv_of_nonneg (by omega)]
   rw[e] at ht
   omega
theorem DI {d:List UInt8} {k x:Nat} {o:Bool} (hk:k<d.length) (h0:48≤bt d k) (h1:bt d k≤57) (hi:F5 d k x o) (ht:(-9223372036854775808+(bt d k - 48)).tdiv 10≤-(x:Int)):
 ∃ y:Nat,wrap64 (wrap64 (10 * -(x:Int)) - (bt d k - 48))=-(y:Int)∧F5 d (k+1) y o:=by
 have hv:=vz hk h0
 have e:(-9223372036854775808+(bt d k - 48)).tdiv 10=-((9223372036854775808 - (bt d k - 48)) / 10):=by
  rw[show (-9223372036854775808+(bt d k - 48))=-(9223372036854775808 - (bt d k - 48)) by omega,Int.neg_tdiv,Int.tdiv_eq_ediv_of_nonneg (by omega)]
 rw[e] at ht
 have hle:=hi.le
 refine⟨(10*(x:Int)+(bt d k - 48)).toNat,?_,zO hk h0 h1 hi.dig,by omega,fun h=>?_,fun h=>?_⟩
 · unfold wrap64;omega
 · have:=hi.eq h;omega
 · have:=hi.big h;omega
theorem mV {d:List UInt8} {k x:Nat} {o:Bool} (hk:¬ k<d.length) (hi:F5 d k x o):d.all dR=true∧(o=false→x=dC d)∧(o=true→9223372036854775808<dC d):=by
 have h:=hi.dig;have h2:=hi.eq;have h3:=hi.big
 rw[List.take_of_length_le (by omega)] at h h2 h3
 exact⟨h,h2,h3⟩
theorem dO {p:Int×Int} {a b:Int} (h:p=(a,b)):Ending.returned (.tuple #[.int .i64 a,.int .i64 b])=.returned (.tuple #[.int .i64 p.1,.int .i64 p.2]):=by rw[h]
set_option maxHeartbeats 1000000 in
theorem LU (d:List UInt8) (w:World) (hl:d.length<1000000) (hne:¬ d=[]) (h0:(bt d 0==48)=false):
 Calls Tryz.prog 60 #[.string (B (45::d))] w fun e w'=>e=.returned (.tuple #[.int .i64 (iD true d).1,.int .i64 (iD true d).2])∧w=w':=by
 have hne':d.isEmpty=false:=by simp[hne]
 have hpos:0<d.length:=List.length_pos_iff.2 hne
 have hb:bt (45::d) 0=45:=by simp[bt]
 go_enter Tryz.func60,Tryz.ntmps60
 go_wp2_with fail
 go_loop [6,7,39] (fun n ov i=>∃ (k x:Nat) (o:Bool),k≤d.length∧x≤9223372036854775808∧F5 d k x o∧i=.int .i64 k∧n=.int .i64 (-(x:Int))∧ov=.bool o) (fun _ _ i=>d.length - (intOf i).toNat)
 case atStart=>exact⟨0,0,false,by omega,by omega,zQ d,rfl,rfl,rfl⟩
 case round=>
  obtain⟨k,x,o,hk,hx,hi,rfl,rfl,rfl⟩:=hrel
  have hb0:=Nz d k
  have hb1:=Ny d k
  go_wp2
  · have hlt:k<d.length:=by assumption
    go_ret2
    exact⟨dO (jP hlt (by omega) true),rfl⟩
  · have hlt:k<d.length:=by assumption
    go_round
    case rel=>exact⟨k+1,x,true,by omega,hx,DJ hlt (by omega) (by omega) hi (by assumption),by go_num,rfl,rfl⟩
    case measure=>simp[intOf];omega
  · have hlt:k<d.length:=by assumption
    obtain⟨y,hy,hi'⟩:=DI hlt (by omega) (by omega) hi (by assumption)
    go_round
    case rel=>exact⟨k+1,y,o,by omega,hi'.le,hi',by go_num,by rw[hy],rfl⟩
    case measure=>simp[intOf];omega
  · have hlt:k<d.length:=by assumption
    go_ret2
    exact⟨dO (jP hlt (by omega) true),rfl⟩
  · have hlt:¬ k<d.length:=by assumption
    obtain⟨e1,e2,e3⟩:=mV hlt hi
    have:=e3 (by assumption)
    go_ret2
    exact⟨dO (by unfold iD;rw[if_pos e1,if_pos rfl,if_neg (by omega)]),rfl⟩
  · have hlt:¬ k<d.length:=by assumption
    obtain⟨e1,e2,e3⟩:=mV hlt hi
    have ho:¬ o=true:=by assumption
    have:=e2 (by simpa using ho)
    go_ret2
    exact⟨dO (by unfold iD;rw[if_pos e1,if_pos rfl,if_pos (by omega)];congr 1;omega),rfl⟩
  · have hlt:¬ k<d.length:=by assumption
    obtain⟨e1,e2,e3⟩:=mV hlt hi
    have ho:¬ o=true:=by assumption
    have:=e2 (by simpa using ho)
    go_ret2
    exact⟨dO (by unfold iD;rw[if_pos e1,if_pos rfl,if_pos (by omega)];congr 1;omega),rfl⟩
set_option maxHeartbeats 1000000 in
theorem LX (d:List UInt8) (w:World) (hl:d.length<1000000) (hne:¬ d=[]) (h45:(bt d 0==45)=false) (h0:(bt d 0==48)=false):
 Calls Tryz.prog 60 #[.string (B d)] w fun e w'=>e=.returned (.tuple #[.int .i64 (iD false d).1,.int .i64 (iD false d).2])∧w=w':=by
 have hne':d.isEmpty=false:=by simp[hne]
 have hpos:0<d.length:=List.length_pos_iff.2 hne
 go_enter Tryz.func60,Tryz.ntmps60
 go_wp2_with fail
 go_loop [6,7,39] (fun n ov i=>∃ (k x:Nat) (o:Bool),k≤d.length∧x≤9223372036854775808∧F5 d k x o∧i=.int .i64 k∧n=.int .i64 (-(x:Int))∧ov=.bool o) (fun _ _ i=>d.length - (intOf i).toNat)
 case atStart=>exact⟨0,0,false,by omega,by omega,zQ d,rfl,rfl,rfl⟩
 case round=>
  obtain⟨k,x,o,hk,hx,hi,rfl,rfl,rfl⟩:=hrel
  have hb0:=Nz d k
  have hb1:=Ny d k
  go_wp2
  · have hlt:k<d.length:=by assumption
    go_ret2
    exact⟨dO (jP hlt (by omega) false),rfl⟩
  · have hlt:k<d.length:=by assumption
    go_round
    case rel=>exact⟨k+1,x,true,by omega,hx,DJ hlt (by omega) (by omega) hi (by assumption),by go_num,rfl,rfl⟩
    case measure=>simp[intOf];omega
  · have hlt:k<d.length:=by assumption
    obtain⟨y,hy,hi'⟩:=DI hlt (by omega) (by omega) hi (by assumption)
    go_round
    case rel=>exact⟨k+1,y,o,by omega,hi'.le,hi',by go_num,by rw[hy],rfl⟩
    case measure=>simp[intOf];omega
  · have hlt:k<d.length:=by assumption
    go_ret2
    exact⟨dO (jP hlt (by omega) false),rfl⟩
  · have hlt:¬ k<d.length:=by assumption
    obtain⟨e1,e2,e3⟩:=mV hlt hi
    have:=e3 (by assumption)
    go_ret2
    exact⟨dO (by unfold iD;rw[if_pos e1,if_neg (by decide),if_neg (by omega)]),rfl⟩
  · have hlt:¬ k<d.length:=by assumption
    obtain⟨e1,e2,e3⟩:=mV hlt hi
    have ho:¬ o=true:=by assumption
    have:=e2 (by simpa using ho)
    go_ret2
    exact⟨dO (by unfold iD;rw[if_pos e1,if_neg (by decide),if_neg (by omega)]),rfl⟩
  · have hlt:¬ k<d.length:=by assumption
    obtain⟨e1,e2,e3⟩:=mV hlt hi
    have ho:¬ o=true:=by assumption
    have:=e2 (by simpa using ho)
    go_ret2
    exact⟨dO (by unfold iD;rw[if_pos e1,if_neg (by decide),if_pos (by omega)];congr 1;omega),rfl⟩
set_option maxHeartbeats 1000000 in
theorem IY (w:World):
 Calls Tryz.prog 60 #[.string (B [48])] w fun e w'=>e=.returned (.tuple #[.int .i64 0,.int .i64 0])∧w=w':=by
 have hb:bt [48] 0=48:=by simp[bt]
 go_enter Tryz.func60,Tryz.ntmps60
 go_wp2
 refine wp_loop_rounds 2 ?_
 repeat (rw[rounds_succ];go_wp2)
 go_ret2
 exact⟨rfl,rfl⟩
set_option maxHeartbeats 1000000 in
theorem LV (w:World):
 Calls Tryz.prog 60 #[.string (B [])] w fun e w'=>e=.returned (.tuple #[.int .i64 0,.int .i64 2])∧w=w':=by
 go_enter Tryz.func60,Tryz.ntmps60
 go_wp2
 go_ret2
 exact⟨rfl,rfl⟩
set_option maxHeartbeats 1000000 in
theorem zF (d:List UInt8) (w:World) (hl:d.length<1000000) (h:d=[]∨bt d 0=48):
 Calls Tryz.prog 60 #[.string (B (45::d))] w fun e w'=>e=.returned (.tuple #[.int .i64 0,.int .i64 2])∧w=w':=by
 have hb:bt (45::d) 0=45:=by simp[bt]
 by_cases hne:d=[]
 · subst hne
   go_enter Tryz.func60,Tryz.ntmps60
   go_wp2
   go_ret2
   exact⟨rfl,rfl⟩
 · have h48:bt d 0=48:=h.resolve_left hne
   have hne':d.isEmpty=false:=by simp[hne]
   have hpos:0<d.length:=List.length_pos_iff.2 hne
   clear h
   go_enter Tryz.func60,Tryz.ntmps60
   go_wp2
   go_ret2
   exact⟨rfl,rfl⟩
set_option maxHeartbeats 1000000 in
theorem zG (d:List UInt8) (w:World) (hl:d.length<1000000) (h1:1<d.length) (h48:bt d 0=48):
 Calls Tryz.prog 60 #[.string (B d)] w fun e w'=>e=.returned (.tuple #[.int .i64 0,.int .i64 2])∧w=w':=by
 have hne':d.isEmpty=false:=by cases d;simp at h1;rfl
 go_enter Tryz.func60,Tryz.ntmps60
 go_wp2
 go_ret2
 exact⟨rfl,rfl⟩
theorem LQ (l:List UInt8) (w:World) (hl:l.length<1000000):
 Calls Tryz.prog 60 #[.string (B l)] w fun e w'=>e=.returned (.tuple #[.int .i64 (pv l).1,.int .i64 (pv l).2])∧w=w':=by
 match l with
 | []=>exact LV w
 | c::d=>
   have hlen:d.length<1000000:=by simp at hl;omega
   by_cases hc:c=45
   · subst hc
     by_cases hd:d=[]∨d.head? = some 48
     · have e:pv (45::d)=(0,2):=by simp only[pv,if_true,if_pos hd]
       rw[e]
       refine zF d w hlen ?_
       rcases hd with hd | hd
       · exact Or.inl hd
       · right
         cases d with
         | nil=>simp at hd
         | cons x y=>simp at hd;subst hd;simp[bt]
     · have e:pv (45::d)=iD true d:=by simp only[pv,if_true,if_neg hd]
       rw[e]
       have hne:¬ d=[]:=fun h=>hd (Or.inl h)
       refine LU d w hlen hne ?_
       cases d with
       | nil=>exact absurd rfl hne
       | cons x y=>
         simp only[iQ]
         simp at hd⊢
         intro h
         exact hd (UInt8.toNat_inj.1 (by simpa using (by omega:x.toNat=48)))
   · have h45:(bt (c::d) 0==45)=false:=by
      simp only[iQ];simp
      intro h
      exact hc (UInt8.toNat_inj.1 (by simpa using (by omega:c.toNat=45)))
     by_cases h48:c=48
     · subst h48
       by_cases hd:d=[]
       · subst hd
         have e:pv [48]=(0,0):=by decide
         rw[e];exact IY w
       · have e:pv (48::d)=(0,2):=by simp[pv,hd]
         rw[e]
         refine zG _ w hl ?_ (by simp[bt])
         have:=List.length_pos_iff.2 hd
         simp;omega
     · have e:pv (c::d)=iD false (c::d):=by simp[pv,hc,h48]
       rw[e]
       refine LX _ w hl (by simp) h45 ?_
       simp only[iQ];simp
       intro h
       exact h48 (UInt8.toNat_inj.1 (by simpa using (by omega:c.toNat=48)))
end Go.Proofs.YtgpanefhaiohnaaGreatDoor
namespace Go.Proofs.YtgpanefhaiohnaaGreatDoor
open Go.RowKit
attribute [local go_sem] JW dJ fQ fO jK oz
theorem Bg (l:List UInt8) (a:Nat):l.foldl (fun n (c:UInt8)=>10*n+(c.toNat - 48)) a=a*10 ^ l.length+dC l:=by
 induction l generalizing a with
 | nil=>simp[dC]
 | cons c l ih=>
   simp only[List.foldl_cons,dC,List.length_cons]
   rw[ih,ih (10*0+(c.toNat - 48))]
   rw[Nat.pow_succ,Nat.add_mul,Nat.mul_zero,Nat.zero_add,Nat.add_assoc]
   congr 1
   rw[Nat.mul_comm 10 a,Nat.mul_assoc,Nat.mul_comm 10]
theorem nz (c:UInt8) (l:List UInt8):dC (c::l)=(c.toNat - 48)*10 ^ l.length+dC l:=by
 show (c::l).foldl _ 0=_
 rw[List.foldl_cons,Bg];simp
theorem FW (l:List UInt8) (h:l.all dR=true):dC l<10 ^ l.length:=by
 induction l with
 | nil=>simp[dC]
 | cons c l ih=>
   simp only[List.all_cons,Bool.and_eq_true] at h
   have:=ih h.2
   have hc:c.toNat - 48≤9:=by have:=h.1;simp[dR] at this;omega
   rw[nz,List.length_cons,Nat.pow_succ]
   have:(c.toNat - 48)*10 ^ l.length≤9*10 ^ l.length:=Nat.mul_le_mul_right _ hc
   omega
theorem IB (a b:List UInt8) (hl:a.length=b.length) (ha:a.all dR=true) (hb:b.all dR=true):Op.bytesLess a b=true↔dC a<dC b:=by
 induction a generalizing b with
 | nil=>
   cases b with
   | nil=>simp[Op.bytesLess,dC]
   | cons _ _=>simp at hl
 | cons x a ih=>
   cases b with
   | nil=>simp at hl
   | cons y b=>
     simp only[List.all_cons,Bool.and_eq_true] at ha hb
     simp only[List.length_cons,Nat.add_right_cancel_iff] at hl
     have hx:48≤x.toNat∧x.toNat≤57:=by have:=ha.1;simpa[dR] using this
     have hy:48≤y.toNat∧y.toNat≤57:=by have:=hb.1;simpa[dR] using this
     have ih':=ih b hl ha.2 hb.2
     have l1:=FW a ha.2
     have l2:=FW b hb.2
     rw[nz,nz,hl]
     rw[hl] at l1
     simp only[Op.bytesLess,Bool.or_eq_true,decide_eq_true_eq,Bool.and_eq_true,beq_iff_eq,ih',UInt8.lt_iff_toNat_lt]
     generalize 10 ^ b.length=P at *
     obtain⟨p,hp⟩:∃ p,x.toNat=48+p:=⟨x.toNat - 48,by omega⟩
     obtain⟨q,hq⟩:∃ q,y.toNat=48+q:=⟨y.toNat - 48,by omega⟩
     rw[← UInt8.toNat_inj,hp,hq,Nat.add_sub_cancel_left,Nat.add_sub_cancel_left]
     constructor
     · rintro (h | ⟨h,h'⟩)
       · have:(p+1)*P≤q*P:=Nat.mul_le_mul_right _ (by omega)
         rw[Nat.add_mul] at this;omega
       · have:p=q:=by omega
         subst this;omega
     · intro h
       by_cases hpq:p<q
       · left;omega
       · right
         by_cases hqp:q<p
         · have:(q+1)*P≤p*P:=Nat.mul_le_mul_right _ (by omega)
           rw[Nat.add_mul] at this;omega
         · have:p=q:=by omega
           subst this;exact⟨rfl,by omega⟩
theorem Ph (l:List UInt8) (hne:l≠[]) (h:l.all dR=true) (h0:l.head?≠some 48):10 ^ (l.length - 1)≤dC l:=by
 cases l with
 | nil=>exact absurd rfl hne
 | cons c l=>
   simp only[List.all_cons,Bool.and_eq_true] at h
   have hc:48≤c.toNat∧c.toNat≤57:=by have:=h.1;simpa[dR] using this
   have hne:c.toNat≠48:=fun e=>h0 (by simp;exact UInt8.toNat_inj.1 (by simpa using e))
   rw[nz,List.length_cons,Nat.add_sub_cancel]
   have:1*10 ^ l.length≤(c.toNat - 48)*10 ^ l.length:=Nat.mul_le_mul_right _ (by omega)
   omega
def tY:List UInt8:=[57,50,50,51,51,55,50,48,51,54,56,53,52,55,55,53,56,48,55]
def tZ:List UInt8:=[57,50,50,51,51,55,50,48,51,54,56,53,52,55,55,53,56,48,56]
theorem Fa:dC tY=9223372036854775807:=by decide +kernel
theorem Fb:dC tZ=9223372036854775808:=by decide +kernel
def kz (m d:List UInt8):Bool:=decide (19<d.length)||(decide (d.length=19)&&(!Op.bytesLess d m&&!(d==m)))
theorem Ja (m d:List UInt8) (hm:m.length=19) (hmd:m.all dR=true) (hv:1000000000000000000≤dC m) (hv2:dC m<10000000000000000000) (hne:d≠[]) (h:d.all dR=true) (h0:d.head?≠some 48):kz m d=true↔dC m<dC d:=by
 have hge:=Ph d hne h h0
 have hlt:=FW d h
 unfold kz
 by_cases h1:19<d.length
 · have:10 ^ 19≤10 ^ (d.length - 1):=Nat.pow_le_pow_right (by decide) (by omega)
   simp[h1];omega
 · by_cases h2:d.length=19
   · have hl:=IB d m (by omega) h hmd
     have hl2:=IB m d (by omega) hmd h
     have he:d=m↔dC d=dC m:=by
      constructor
      · rintro rfl;rfl
      · intro hv
        have a1:¬ Op.bytesLess d m=true:=by rw[hl];omega
        have a2:¬ Op.bytesLess m d=true:=by rw[hl2];omega
        have tri:∀ (a b:List UInt8),a.length=b.length→¬ Op.bytesLess a b=true→¬ Op.bytesLess b a=true→a=b:=by
         intro a
         induction a with
         | nil=>intro b hb _ _;cases b with | nil=>rfl | cons _ _=>simp at hb
         | cons x a ih=>
           intro b hb c1 c2
           cases b with
           | nil=>simp at hb
           | cons y b=>
             simp only[Op.bytesLess,Bool.or_eq_true,decide_eq_true_eq,Bool.and_eq_true,beq_iff_eq,not_or,UInt8.lt_iff_toNat_lt] at c1 c2
             have hxy:x=y:=UInt8.toNat_inj.1 (by omega)
             subst hxy
             rw[ih b (by simpa using hb) (fun h=>c1.2 ⟨rfl,h⟩) (fun h=>c2.2 ⟨rfl,h⟩)]
        exact tri d m (by omega) a1 a2
     have e:(!Op.bytesLess d m&&!(d==m))=true↔dC m<dC d:=by
      rw[Bool.and_eq_true,Bool.not_eq_true',Bool.not_eq_true']
      rw[← Bool.not_eq_true,hl,beq_eq_false_iff_ne,ne_eq,he]
      omega
     simp only[h2,decide_true,Bool.true_and]
     simpa using e
   · have:10 ^ d.length≤10 ^ 18:=Nat.pow_le_pow_right (by decide) (by omega)
     simp[h1,h2];omega
end Go.Proofs.YtgpanefhaiohnaaGreatDoor
namespace Go.Proofs.YtgpanefhaiohnaaGreatDoor
open Go.RowKit
attribute [local go_sem] JW dJ fQ fO jK oz
theorem ov1 {m d:List UInt8} (h:(d.length:Int)=19) (q:(!Op.bytesLess d m)=true∧(!d==m)=true):kz m d=true:=by
 have:d.length=19:=by omega
 unfold kz;rw[q.1,q.2];simp[this]
theorem ov2 {m d:List UInt8} (h:(d.length:Int)=19) (q:(!Op.bytesLess d m)=false∨(!d==m)=false):kz m d=false:=by
 have:d.length=19:=by omega
 unfold kz;rcases q with q | q<;>rw[q]<;>simp[this]
theorem ov3 {m d:List UInt8} (h:¬ (d.length:Int)=19) (h':(d.length:Int)≤19):kz m d=false:=by
 have h1:¬ d.length=19:=by omega
 have h2:¬ 19<d.length:=by omega
 unfold kz;simp[h1,h2]
theorem ov4 {m d:List UInt8} (h:19<(d.length:Int)):kz m d=true:=by
 have h2:19<d.length:=by omega
 unfold kz;simp[h2]
def FZ (d:List UInt8) (k:Nat):Prop:=(d.take k).all dR=true
theorem BF {d:List UInt8} {k:Nat} (hk:k<d.length) (h0:48≤bt d k) (h1:bt d k≤57) (h:FZ d k):FZ d (k+1):=zO hk h0 h1 h
theorem G8 {d:List UInt8} {k:Nat} (hk:¬ k<d.length) (h:FZ d k):d.all dR=true:=by
 unfold FZ at h;rwa [List.take_of_length_le (by omega)] at h
theorem Kz {d:List UInt8} (h:d.all dR=true) {k:Nat} (hk:k<d.length):48≤bt d k∧bt d k≤57:=by
 rw[rO d k hk]
 have:=(List.all_eq_true.1 h) d[k] (List.getElem_mem hk)
 simp[dR] at this;omega
theorem AB {d:List UInt8} (h:d.all dR=true) {k:Nat} (hk:k<d.length) {M:Nat} (hv:dC d≤M):10*(dC (d.take k):Int)+(bt d k - 48)=(dC (d.take (k+1)):Int)∧(dC (d.take (k+1)):Int)≤M∧(dC (d.take k):Int)≤M:=by
 have h1:=Kz h hk
 have h2:=vz hk h1.1
 have h3:=XL (d.take (k+1)) (d.drop (k+1))
 rw[List.take_append_drop] at h3
 omega
theorem head_ne (d:List UInt8) (h0:(bt d 0==48)=false):d.head?≠some 48:=by
 intro h
 cases d with
 | nil=>simp at h
 | cons c d=>simp at h;subst h;simp[bt] at h0
theorem D9 (v:Int) (h0:0≤v) (h1:v≤9223372036854775808):IntKind.u64.wrap (wrap64 v)=v:=by
 rw[wrap_u64];unfold wrap64;omega
theorem LH (v:Int) (h0:0≤v) (h1:v≤9223372036854775808):wrap64 ((18446744073709551616 - v) % 18446744073709551616)=-v:=by
 unfold wrap64;omega
theorem U0 {d:List UInt8} (h:d.all dR=true) (hne:d≠[]) (h0:d.head?≠some 48):(kz tY d=true→iD false d=(0,14))∧(kz tY d=false→dC d≤9223372036854775807∧iD false d=((dC d:Int),0)):=by
 have hi:=Ja tY d (by decide) (by decide) (by rw[Fa];decide) (by rw[Fa];decide) hne h h0
 rw[Fa] at hi
 refine⟨fun ho=>?_,fun ho=>?_⟩
 · have:=hi.1 ho
   unfold iD;rw[if_pos h,if_neg (by decide),if_neg (by omega)]
 · have hn:¬ kz tY d=true:=by rw[ho];decide
   rw[hi] at hn
   refine⟨by omega,?_⟩
   unfold iD;rw[if_pos h,if_neg (by decide),if_pos (by omega)]
set_option maxHeartbeats 4000000 in
theorem MR (d:List UInt8) (w:World) (hl:d.length<1000000) (hne:¬ d=[]) (h45:(bt d 0==45)=false) (h0:(bt d 0==48)=false):
 Calls Tryz.prog 62 #[.string (B d)] w fun e w'=>e=.returned (.tuple #[.int .i64 (iD false d).1,.int .i64 (iD false d).2])∧Below w.heap.size w w':=by
 have hne':d.isEmpty=false:=by simp[hne]
 have hpos:0<d.length:=List.length_pos_iff.2 hne
 have hlen0:((d.length:Int)==0)=false:=by simp[hne]
 have hh:=head_ne d h0
 go_enter Tryz.func62,Tryz.ntmps62
 go_wp2_with fail
 go_loop [2,3,5] (fun _ _ i=>∃ (k:Nat),k≤d.length∧FZ d k∧i=.int .i64 k) (fun _ _ i=>d.length - (intOf i).toNat)
 case atStart=>exact⟨0,by omega,by simp[FZ],rfl⟩
 case round=>
  obtain⟨k,hk,hd,rfl⟩:=hrel
  have hb0:=Nz d k
  have hb1:=Ny d k
  by_cases hlt:k<d.length
  · go_wp2
    · go_ret2
      exact⟨dO (jP hlt (by omega) false),Below.refl _ _⟩
    · go_round
      case rel=>exact⟨k+1,by omega,BF hlt (by omega) (by omega) hd,by go_num⟩
      case measure=>simp[intOf];omega
    · go_ret2
      exact⟨dO (jP hlt (by omega) false),Below.refl _ _⟩
  · have hall:=G8 hlt hd
    obtain⟨fin1,fin2⟩:=U0 hall hne hh
    have HF1:=Lib.hid fin1
    have HF2:=Lib.hid fin2
    have HA:=Lib.hid hall
    clear fin1 fin2 hall hd hb0 hb1
    go_wp2
    · go_ret2
      exact⟨dO (HF1.out (ov1 (m:=tY) (by assumption) (by assumption))),Below.refl _ _⟩
    rotate_left 2
    · go_ret2
      exact⟨dO (HF1.out (ov4 (m:=tY) (by assumption))),Below.refl _ _⟩
    all_goals
     obtain⟨hv,hfin⟩:=HF2.out (by first | exact ov2 (m:=tY) (by assumption) (by assumption) | exact ov3 (m:=tY) (by assumption) (by assumption))
     have HFIN:=Lib.hid hfin
     clear HF1 HF2 hfin
     try (rename (d.length:Int)=19=>e19;clear e19)
     go_loop [7,8] (fun n i=>∃ (j:Nat),j≤d.length∧i=.int .i64 j∧n=.int .u64 (dC (d.take j))) (fun _ i=>d.length - (intOf i).toNat)
     case atStart=>exact⟨0,by omega,rfl,rfl⟩
     case round=>
      obtain⟨j,hj,rfl,rfl⟩:=hrel
      by_cases hjt:j<d.length
      · obtain⟨v1,v2,v3⟩:=AB HA.out hjt hv
        obtain⟨v4,v5⟩:=Kz HA.out hjt
        have v6:0≤(dC (d.take j):Int):=by omega
        have v7:10*(dC (d.take j):Int)+(bt d j - 48)≤9223372036854775807:=by omega
        have V1:=Lib.hid v1
        clear v1 v2
        go_wp2
        go_round
        case rel=>exact⟨j+1,by omega,by go_num,by rw[← V1.out];congr 1;omega⟩
        case measure=>simp[intOf];omega
      · have ht:d.take j=d:=List.take_of_length_le (by omega)
        rw[ht]
        have hv':(dC d:Int)≤9223372036854775807:=by omega
        clear ht hv
        go_wp2
        go_ret2
        exact⟨dO (by rw[HFIN.out]),Below.refl _ _⟩
theorem UZ {d:List UInt8} (h:d.all dR=true) (hne:d≠[]) (h0:d.head?≠some 48):(kz tZ d=true→iD true d=(0,14))∧(kz tZ d=false→dC d≤9223372036854775808∧iD true d=(-(dC d:Int),0)):=by
 have hi:=Ja tZ d (by decide) (by decide) (by rw[Fb];decide) (by rw[Fb];decide) hne h h0
 rw[Fb] at hi
 refine⟨fun ho=>?_,fun ho=>?_⟩
 · have:=hi.1 ho
   unfold iD;rw[if_pos h,if_pos rfl,if_neg (by omega)]
 · have hn:¬ kz tZ d=true:=by rw[ho];decide
   rw[hi] at hn
   refine⟨by omega,?_⟩
   unfold iD;rw[if_pos h,if_pos rfl,if_pos (by omega)]
set_option maxHeartbeats 4000000 in
theorem MP (d:List UInt8) (w:World) (hl:d.length<1000000) (hne:¬ d=[]) (h0:(bt d 0==48)=false):
 Calls Tryz.prog 62 #[.string (B (45::d))] w fun e w'=>e=.returned (.tuple #[.int .i64 (iD true d).1,.int .i64 (iD true d).2])∧Below w.heap.size w w':=by
 have hne':d.isEmpty=false:=by simp[hne]
 have hpos:0<d.length:=List.length_pos_iff.2 hne
 have hlen0:((d.length:Int)==0)=false:=by simp[hne]
 have hb:bt (45::d) 0=45:=by simp[bt]
 have hh:=head_ne d h0
 go_enter Tryz.func62,Tryz.ntmps62
 go_wp2_with fail
 go_loop [2,3,5] (fun _ _ i=>∃ (k:Nat),k≤d.length∧FZ d k∧i=.int .i64 k) (fun _ _ i=>d.length - (intOf i).toNat)
 case atStart=>exact⟨0,by omega,by simp[FZ],rfl⟩
 case round=>
  obtain⟨k,hk,hd,rfl⟩:=hrel
  have hb0:=Nz d k
  have hb1:=Ny d k
  by_cases hlt:k<d.length
  · go_wp2
    · go_ret2
      exact⟨dO (jP hlt (by omega) true),Below.refl _ _⟩
    · go_round
      case rel=>exact⟨k+1,by omega,BF hlt (by omega) (by omega) hd,by go_num⟩
      case measure=>simp[intOf];omega
    · go_ret2
      exact⟨dO (jP hlt (by omega) true),Below.refl _ _⟩
  · have hall:=G8 hlt hd
    obtain⟨fin1,fin2⟩:=UZ hall hne hh
    have HF1:=Lib.hid fin1
    have HF2:=Lib.hid fin2
    have HA:=Lib.hid hall
    clear fin1 fin2 hall hd hb0 hb1
    go_wp2
    · go_ret2
      exact⟨dO (HF1.out (ov1 (m:=tZ) (by assumption) (by assumption))),Below.refl _ _⟩
    rotate_left 2
    · go_ret2
      exact⟨dO (HF1.out (ov4 (m:=tZ) (by assumption))),Below.refl _ _⟩
    all_goals
     obtain⟨hv,hfin⟩:=HF2.out (by first | exact ov2 (m:=tZ) (by assumption) (by assumption) | exact ov3 (m:=tZ) (by assumption) (by assumption))
     have HFIN:=Lib.hid hfin
     clear HF1 HF2 hfin
     try (rename (d.length:Int)=19=>e19;clear e19)
     go_loop [7,8] (fun n i=>∃ (j:Nat),j≤d.length∧i=.int .i64 j∧n=.int .u64 (dC (d.take j))) (fun _ i=>d.length - (intOf i).toNat)
     case atStart=>exact⟨0,by omega,rfl,rfl⟩
     case round=>
      obtain⟨j,hj,rfl,rfl⟩:=hrel
      by_cases hjt:j<d.length
      · obtain⟨v1,v2,v3⟩:=AB HA.out hjt hv
        obtain⟨v4,v5⟩:=Kz HA.out hjt
        have v6:0≤(dC (d.take j):Int):=by omega
        have v7:10*(dC (d.take j):Int)+(bt d j - 48)≤9223372036854775808:=by omega
        have V1:=Lib.hid v1
        clear v1 v2
        go_wp2
        go_round
        case rel=>exact⟨j+1,by omega,by go_num,by rw[← V1.out];congr 1;omega⟩
        case measure=>simp[intOf];omega
      · have ht:d.take j=d:=List.take_of_length_le (by omega)
        rw[ht]
        have hv':(dC d:Int)≤9223372036854775808:=by omega
        clear ht hv
        have hu:=D9 (dC d) (by omega) (by omega)
        have hN:=Lib.hid (LH (dC d) (by omega) (by omega))
        have hbd:(dC d:Int)≤18446744073709551615:=by omega
        have hbd0:0≤(dC d:Int):=by omega
        go_wp2_with fail
        refine (SC _ _ hu hbd0 hbd _).mono ?_
        rintro e w1 ⟨rfl,hb1⟩
        go_wp2_with fail
        refine (zl _ _ _ _ _ _ _ _ (by omega) (by omega) (by omega) (by omega) (by omega) (by omega) (by omega) (by omega) (by omega) (by omega) (by omega) (by omega) (by omega) (by omega) (by omega) (by omega) _).mono ?_
        rintro e w2 ⟨rfl,hb2⟩
        go_wp2_with fail
        refine (oO _ _ _ _ _ _ _ _ (by omega) (by omega) (by omega) (by omega) (by omega) (by omega) (by omega) (by omega) (by omega) (by omega) (by omega) (by omega) (by omega) (by omega) (by omega) (by omega) _).mono ?_
        rintro e w3 ⟨rfl,hb3⟩
        go_wp2_with fail
        have q3:Below w.heap.size w w3:=Below.trans (Below.trans hb1 (hb2.mono hb1.size)) (hb3.mono (Nat.le_trans hb1.size hb2.size))
        go_ret2
        refine⟨dO ?_,q3⟩
        rw[HFIN.out,zH _ _ _ _ _ _ _ _ (by omega) (by omega) (by omega) (by omega) (by omega) (by omega) (by omega) (by omega) (by omega) (by omega) (by omega) (by omega) (by omega) (by omega) (by omega) (by omega),Fh _ hbd0 hbd,hN.out]
end Go.Proofs.YtgpanefhaiohnaaGreatDoor
namespace Go.Proofs.YtgpanefhaiohnaaGreatDoor
open Go.RowKit
attribute [local go_sem] JW dJ fQ fO jK oz
set_option maxHeartbeats 1000000 in
theorem Jv (w:World):
 Calls Tryz.prog 62 #[.string (B [48])] w fun e w'=>e=.returned (.tuple #[.int .i64 0,.int .i64 0])∧Below w.heap.size w w':=by
 have hb:bt [48] 0=48:=by simp[bt]
 go_enter Tryz.func62,Tryz.ntmps62
 go_wp2
 refine wp_loop_rounds 2 ?_
 repeat (rw[rounds_succ];go_wp2)
 refine wp_loop_rounds 2 ?_
 repeat (rw[rounds_succ];go_wp2)
 go_ret2
 exact⟨rfl,Below.refl _ _⟩
set_option maxHeartbeats 1000000 in
theorem MQ (w:World):
 Calls Tryz.prog 62 #[.string (B [])] w fun e w'=>e=.returned (.tuple #[.int .i64 0,.int .i64 2])∧Below w.heap.size w w':=by
 go_enter Tryz.func62,Tryz.ntmps62
 go_wp2
 go_ret2
 exact⟨rfl,Below.refl _ _⟩
set_option maxHeartbeats 1000000 in
theorem Aa (d:List UInt8) (w:World) (hl:d.length<1000000) (h:d=[]∨bt d 0=48):
 Calls Tryz.prog 62 #[.string (B (45::d))] w fun e w'=>e=.returned (.tuple #[.int .i64 0,.int .i64 2])∧Below w.heap.size w w':=by
 have hb:bt (45::d) 0=45:=by simp[bt]
 by_cases hne:d=[]
 · subst hne
   go_enter Tryz.func62,Tryz.ntmps62
   go_wp2
   go_ret2
   exact⟨rfl,Below.refl _ _⟩
 · have h48:bt d 0=48:=h.resolve_left hne
   have hne':d.isEmpty=false:=by simp[hne]
   have hpos:0<d.length:=List.length_pos_iff.2 hne
   clear h
   go_enter Tryz.func62,Tryz.ntmps62
   go_wp2
   go_ret2
   exact⟨rfl,Below.refl _ _⟩
set_option maxHeartbeats 1000000 in
theorem Ac (d:List UInt8) (w:World) (hl:d.length<1000000) (h1:1<d.length) (h48:bt d 0=48):
 Calls Tryz.prog 62 #[.string (B d)] w fun e w'=>e=.returned (.tuple #[.int .i64 0,.int .i64 2])∧Below w.heap.size w w':=by
 have hne':d.isEmpty=false:=by cases d;simp at h1;rfl
 have hlen0:((d.length:Int)==0)=false:=by simp;intro h;subst h;simp at h1
 go_enter Tryz.func62,Tryz.ntmps62
 go_wp2
 go_ret2
 exact⟨rfl,Below.refl _ _⟩
theorem MO (l:List UInt8) (w:World) (hl:l.length<1000000):
 Calls Tryz.prog 62 #[.string (B l)] w fun e w'=>e=.returned (.tuple #[.int .i64 (pv l).1,.int .i64 (pv l).2])∧Below w.heap.size w w':=by
 match l with
 | []=>exact MQ w
 | c::d=>
   have hlen:d.length<1000000:=by simp at hl;omega
   by_cases hc:c=45
   · subst hc
     by_cases hd:d=[]∨d.head? = some 48
     · have e:pv (45::d)=(0,2):=by simp only[pv,if_true,if_pos hd]
       rw[e]
       refine Aa d w hlen ?_
       rcases hd with hd | hd
       · exact Or.inl hd
       · right
         cases d with
         | nil=>simp at hd
         | cons x y=>simp at hd;subst hd;simp[bt]
     · have e:pv (45::d)=iD true d:=by simp only[pv,if_true,if_neg hd]
       rw[e]
       have hne:¬ d=[]:=fun h=>hd (Or.inl h)
       refine MP d w hlen hne ?_
       cases d with
       | nil=>exact absurd rfl hne
       | cons x y=>
         simp only[iQ]
         simp at hd⊢
         intro h
         exact hd (UInt8.toNat_inj.1 (by simpa using (by omega:x.toNat=48)))
   · have h45:(bt (c::d) 0==45)=false:=by
      simp only[iQ];simp
      intro h
      exact hc (UInt8.toNat_inj.1 (by simpa using (by omega:c.toNat=45)))
     by_cases h48:c=48
     · subst h48
       by_cases hd:d=[]
       · subst hd
         have e:pv [48]=(0,0):=by decide
         rw[e];exact Jv w
       · have e:pv (48::d)=(0,2):=by simp[pv,hd]
         rw[e]
         refine Ac _ w hl ?_ (by simp[bt])
         have:=List.length_pos_iff.2 hd
         simp;omega
     · have e:pv (c::d)=iD false (c::d):=by simp[pv,hc,h48]
       rw[e]
       refine MR _ w hl (by simp) h45 ?_
       simp only[iQ];simp
       intro h
       exact h48 (UInt8.toNat_inj.1 (by simpa using (by omega:c.toNat=48)))
end Go.Proofs.YtgpanefhaiohnaaGreatDoor
namespace Go.Proofs.YtgpanefhaiohnaaGreatDoor
open Go.RowKit
def dg (m:Nat):UInt8:=UInt8.ofNat (48+m)
def Rh:Nat→Nat→List UInt8→List UInt8
 | 0,_,t=>t
 | k+1,m,t=>if m<10 then dg m::t else Rh k (m / 10) (dg (m % 10)::t)
def dec (m:Nat):List UInt8:=Rh 20 m []
def txt (n:Int):List UInt8:=if n<0 then 45::dec n.natAbs else dec n.natAbs
end Go.Proofs.YtgpanefhaiohnaaGreatDoor
namespace Go.Proofs.YtgpanefhaiohnaaGreatDoor
open Go.RowKit
attribute [local go_sem] JW dJ fQ fO jK oz
theorem FT (b q:Nat) (hq:q<20) (W:World):(Instr.sliceAt 123 (.pointer (some ⟨b,0,none⟩)) (some (.int .i64 (q:Int))) none none).run Tryz.prog W=.ok (.slice (some ⟨b,q,none⟩) (20 - q) (20 - q)) W:=by
 have hu:Tryz.prog.underlying 123=some (.array (Tryz.prog.arrayLen 123) (Tryz.prog.elem 123)):=by
  simp[Program.arrayLen,Program.elem,Tryz.underlying123]
 have hl:Tryz.prog.arrayLen 123=20:=by simp[Program.arrayLen,Tryz.underlying123]
 rw[run_sliceAt_array_l W _ _ hu _ _ (by omega) (by rw[hl];omega)]
 have he:(sizeOf (Tryz.prog.elem 123)).run Tryz.prog W=.ok 1 W:=by
  simp[go_sem,Program.elem]
 rw[he]
 have hq2:¬ 20=q:=by omega
 simp[Result.andThen,slicedAt,hl,Addr.add,hq2]
 intro h;subst h;rfl
def TC (b:Nat) (t:List UInt8) (wr:World):Prop:=
 (∀ i,i<20→wr.cell? ⟨b,i,none⟩=some (was wr b i)∧wr.frozen? ⟨b,i,none⟩=false)∧∀ j,j<t.length→wr.cell? ⟨b,20 - t.length+j,none⟩=some (.int .u8 (bt t j))
theorem JY {b q:Nat} {t:List UInt8} {wr:World} (h:TC b t wr) (hq:q+1+t.length=20) (c:UInt8) (v:Int) (hv:v=c.toNat):TC b (c::t) (wr.setCell ⟨b,q,none⟩ (.int .u8 v)):=by
 subst hv
 refine⟨fun i hi=>⟨Q8 _ _ (h.1 i hi).1,?_⟩,fun j hj=>?_⟩
 · rw[World.frozen?_setCell];exact (h.1 i hi).2
 · simp only[List.length_cons] at hj⊢
   cases j with
   | zero=>
     rw[show 20 - (t.length+1)+0=q by omega,iQ]
     exact World.cell?_setCell_same _ _ _ (h.1 q (by omega)).1
   | succ j=>
     rw[show 20 - (t.length+1)+(j+1)=20 - t.length+j by omega,VV,World.cell?_setCell_other _ _ _ _ (by simp only[ne_eq,Addr.mk.injEq,not_and];omega)]
     exact h.2 j (by omega)
theorem F6 {b q:Nat} {t:List UInt8} {W:World} (h:TC b t W) (hl:t.length=20 - q) (hq:q≤20):(convert 56 9 (.slice (some ⟨b,q,none⟩) (20 - q) (20 - q))).run Tryz.prog W=.ok (.string (B t)) W:=by
 rw[← hl]
 refine o6 W _ _ 5 b q _ t Tryz.underlying56 Tryz.underlying5 Tryz.underlying9 fun j hj=>?_
 rw[show q+j=20 - t.length+j by omega]
 exact h.2 j hj
theorem F7 (w:World) (bl:Array Value) (ty:TypeId) (hs:bl.size=20):TC w.heap.size [] (w.alloc (.cells bl ty)):=by
 refine⟨fun i hi=>?_,fun j hj=>by simp at hj⟩
 have hc:(w.alloc (.cells bl ty)).cell? ⟨w.heap.size,i,none⟩=some (bl[i]'(by omega)):=by
  rw[World.cell?_alloc_new];simp[hs,hi]
 refine⟨VD hc,?_⟩
 exact World.frozen?_alloc_new _ _ _ _
structure TI (m0 q m:Nat) (t:List UInt8):Prop where
 len:q+1+t.length=20
 go:Rh (q+1) m t=dec m0
 le:m*10 ^ t.length≤m0
 pos:t=[]∨1≤m
theorem TI.room {m0 q m:Nat} {t:List UInt8} (h:TI m0 q m t) (hm:m0≤9223372036854775808):1≤q∧m≤m0:=by
 obtain⟨hl,_,hle,hp⟩:=h
 have hpw:1≤10 ^ t.length:=Nat.one_le_pow _ _ (by decide)
 have h1:m≤m*10 ^ t.length:=Nat.le_mul_of_pos_right _ hpw
 refine⟨?_,Nat.le_trans h1 hle⟩
 rcases hp with rfl | hp
 · simp at hl;omega
 · have h2:1*10 ^ t.length≤m*10 ^ t.length:=Nat.mul_le_mul_right _ hp
   by_cases hq:1≤q
   · exact hq
   · exfalso
     have:t.length=19:=by omega
     rw[this] at h2 hle
     have h3:=Nat.le_trans h2 hle
     omega
theorem TI.next {m0 q m:Nat} {t:List UInt8} (h:TI m0 q m t) (hm:m0≤9223372036854775808) (h10:¬ m<10):∃ q',q=q'+1∧TI m0 q' (m / 10) (dg (m % 10)::t):=by
 have hr:=h.room hm
 obtain⟨hl,hg,hle,hp⟩:=h
 refine⟨q - 1,by omega,by simp;omega,?_,?_,Or.inr (by omega)⟩
 · rw[show q - 1+1=q by omega,← hg,Rh,if_neg h10]
 · rw[List.length_cons,Nat.pow_succ]
   have:m / 10*(10 ^ t.length*10)=(m / 10*10)*10 ^ t.length:=by
    rw[Nat.mul_comm (10 ^ t.length) 10,Nat.mul_assoc]
   rw[this]
   exact Nat.le_trans (Nat.mul_le_mul_right _ (by omega)) hle
theorem TI.last {m0 q m:Nat} {t:List UInt8} (h:TI m0 q m t) (h10:m<10):dg (m % 10)::t=dec m0:=by
 have:=h.go
 rw[Rh,if_pos h10] at this
 rw[← this,show m % 10=m by omega]
theorem TI.start (m0:Nat):TI m0 19 m0 []:=⟨by simp,rfl,by simp,Or.inl rfl⟩
theorem BD (m:Nat):(48:Int)+(m:Int) % 10=((dg (m % 10)).toNat:Int):=by
 simp[dg];omega
set_option maxRecDepth 100000 in
set_option maxHeartbeats 4000000 in
theorem Vt (m0:Nat) (hm:m0≤9223372036854775808) (hp:0<(m0:Int)) (w:World):
 Calls Tryz.prog 49 #[.int .i64 m0] w fun e w'=>e=.returned (.string (B (dec m0)))∧Below w.heap.size w w':=by
 have hp2:0<m0:=by omega
 go_enter Tryz.func49,Tryz.ntmps49
 go_wp2
 go_loopw [4,5] (fun a l wr=>∃ (q m:Nat) (t:List UInt8),TI m0 q m t∧a=.int .i64 (↑q+1)∧l=.int .i64 (-(m:Int))∧TC w.heap.size t wr∧Below w.heap.size w wr) (fun a _ _=>(intOf a).toNat)
 case atStart=>exact⟨19,m0,[],TI.start m0,rfl,rfl,F7 _ _ _ rfl,(by (repeat (first | (with_reducible exact Below.refl _ _) | (with_reducible assumption) | (with_reducible refine Below.drew ?_) | (with_reducible refine below_draws ?_ _) | ((with_reducible refine Below.setCell ?_ ?_ _);rotate_left;(first | (with_reducible exact Nat.le_refl _) | (focus (simp;done)) | (focus (simp;omega)) | omega)) | ((with_reducible refine Below.alloc ?_ ?_ _);rotate_left;(first | (with_reducible exact Nat.le_refl _) | (focus (simp;done)) | (focus (simp;omega)) | omega)))))⟩
 case round=>
  obtain⟨q,m,t,ht,rfl,rfl,hc,hB⟩:=hrel
  obtain⟨hc1,hc2⟩:=hc.1 q (by have:=ht.len;omega)
  have hq2:q<20:=by have:=ht.len;omega
  obtain⟨hr1,hr2⟩:=ht.room hm
  have hc':=JY hc ht.len (dg (m % 10)) _ (BD m)
  have hB':=hB.setCell (p:=⟨w.heap.size,q,none⟩) (Nat.le_refl _) (.int .u8 (48+(m:Int) % 10))
  have hsl:=FT w.heap.size q hq2
  by_cases h10:m<10
  · have hcv:=F6 (q:=q) hc' (by simp;have:=ht.len;omega) (by omega)
    have hlast:=ht.last h10
    have HT:=Lib.hid ht
    have HC:=Lib.hid hc'
    clear ht hc hc'
    go_wp2
    go_ret
    exact⟨by rw[← hlast];rfl,hB'⟩
  · obtain⟨q',rfl,ht'⟩:=ht.next hm h10
    have hz:(-((m:Int) / 10)==0)=false:=by simp;omega
    clear ht hc
    go_wp2
    go_roundw
    case rel=>exact⟨q',m / 10,_,ht',by go_num,by go_num,hc',hB'⟩
    case measure=>simp[intOf];omega
set_option maxRecDepth 100000 in
set_option maxHeartbeats 4000000 in
theorem Vs (m0:Nat) (hm:m0≤9223372036854775808) (hp:0<(m0:Int)) (w:World):
 Calls Tryz.prog 49 #[.int .i64 (-(m0:Int))] w fun e w'=>e=.returned (.string (B (45::dec m0)))∧Below w.heap.size w w':=by
 have hn0:¬ 0 < -(m0:Int):=by omega
 have hn1:-(m0:Int)<0:=by omega
 go_enter Tryz.func49,Tryz.ntmps49
 go_wp2
 go_loopw [4,5] (fun a l wr=>∃ (q m:Nat) (t:List UInt8),TI m0 q m t∧a=.int .i64 (↑q+1)∧l=.int .i64 (-(m:Int))∧TC w.heap.size t wr∧Below w.heap.size w wr) (fun a _ _=>(intOf a).toNat)
 case atStart=>exact⟨19,m0,[],TI.start m0,rfl,rfl,F7 _ _ _ rfl,(by (repeat (first | (with_reducible exact Below.refl _ _) | (with_reducible assumption) | (with_reducible refine Below.drew ?_) | (with_reducible refine below_draws ?_ _) | ((with_reducible refine Below.setCell ?_ ?_ _);rotate_left;(first | (with_reducible exact Nat.le_refl _) | (focus (simp;done)) | (focus (simp;omega)) | omega)) | ((with_reducible refine Below.alloc ?_ ?_ _);rotate_left;(first | (with_reducible exact Nat.le_refl _) | (focus (simp;done)) | (focus (simp;omega)) | omega)))))⟩
 case round=>
  obtain⟨q,m,t,ht,rfl,rfl,hc,hB⟩:=hrel
  obtain⟨hc1,hc2⟩:=hc.1 q (by have:=ht.len;omega)
  have hq2:q<20:=by have:=ht.len;omega
  obtain⟨hr1,hr2⟩:=ht.room hm
  have hc':=JY hc ht.len (dg (m % 10)) _ (BD m)
  have hB':=hB.setCell (p:=⟨w.heap.size,q,none⟩) (Nat.le_refl _) (.int .u8 (48+(m:Int) % 10))
  by_cases h10:m<10
  · obtain⟨p,rfl⟩:∃ p,q=p+1:=⟨q - 1,by omega⟩
    have hp2:p<20:=by omega
    have hsl:=FT w.heap.size p hp2
    obtain⟨hc3,hc4⟩:=hc'.1 p (by omega)
    have hc'':=JY (q:=p) hc' (by have:=ht.len;simp;omega) 45 45 rfl
    have hB'':=hB'.setCell (p:=⟨w.heap.size,p,none⟩) (Nat.le_refl _) (.int .u8 45)
    have hcv:=F6 (q:=p) hc'' (by simp;have:=ht.len;omega) (by omega)
    have hlast:=ht.last h10
    clear ht hc hc' hc''
    go_wp2
    go_ret
    exact⟨by rw[← hlast];rfl,hB''⟩
  · obtain⟨q',rfl,ht'⟩:=ht.next hm h10
    have hz:(-((m:Int) / 10)==0)=false:=by simp;omega
    clear ht hc
    go_wp2
    go_roundw
    case rel=>exact⟨q',m / 10,_,ht',by go_num,by go_num,hc',hB'⟩
    case measure=>simp[intOf];omega
set_option maxRecDepth 100000 in
set_option maxHeartbeats 4000000 in
theorem Q4 (w:World):
 Calls Tryz.prog 49 #[.int .i64 0] w fun e w'=>e=.returned (.string (B [48]))∧Below w.heap.size w w':=by
 have hsl:=FT w.heap.size 19 (by omega)
 have hcv:=o6 (P:=Tryz.prog) (w.alloc (.cells #[.int .u8 0,.int .u8 0,.int .u8 0,.int .u8 0,.int .u8 0,.int .u8 0,.int .u8 0,.int .u8 0,.int .u8 0,.int .u8 0,.int .u8 0,.int .u8 0,.int .u8 0,.int .u8 0,.int .u8 0,.int .u8 0,.int .u8 0,.int .u8 0,.int .u8 0,.int .u8 48] 123)) _ _ 5 w.heap.size 19 1 [48] Tryz.underlying56 Tryz.underlying5 Tryz.underlying9 (by
  intro j hj
  have:j=0:=by simp at hj;omega
  subst this
  rw[World.cell?_alloc_new];rfl)
 rw[show ([48]:List UInt8).length=1 from rfl] at hcv
 go_enter Tryz.func49,Tryz.ntmps49
 go_wp2
 refine wp_loop_rounds 2 ?_
 repeat (rw[rounds_succ];go_wp2)
 go_ret
 exact⟨rfl,(by (repeat (first | (with_reducible exact Below.refl _ _) | (with_reducible assumption) | (with_reducible refine Below.drew ?_) | (with_reducible refine below_draws ?_ _) | ((with_reducible refine Below.setCell ?_ ?_ _);rotate_left;(first | (with_reducible exact Nat.le_refl _) | (focus (simp;done)) | (focus (simp;omega)) | omega)) | ((with_reducible refine Below.alloc ?_ ?_ _);rotate_left;(first | (with_reducible exact Nat.le_refl _) | (focus (simp;done)) | (focus (simp;omega)) | omega)))))⟩
theorem Vr (n:Int) (h0:-9223372036854775808≤n) (h1:n≤9223372036854775807) (w:World):
 Calls Tryz.prog 49 #[.int .i64 n] w fun e w'=>e=.returned (.string (B (txt n)))∧Below w.heap.size w w':=by
 by_cases hp:0<n
 · have:=Vt n.natAbs (by omega) (by omega) w
   rw[show ((n.natAbs:Nat):Int)=n by omega] at this
   unfold txt;rw[if_neg (by omega)];exact this
 · by_cases hn:n<0
   · have:=Vs n.natAbs (by omega) (by omega) w
     rw[show -((n.natAbs:Nat):Int)=n by omega] at this
     unfold txt;rw[if_pos hn];exact this
   · obtain rfl:n=0:=by omega
     exact Q4 w
end Go.Proofs.YtgpanefhaiohnaaGreatDoor
namespace Go.Proofs.YtgpanefhaiohnaaGreatDoor
open Go.RowKit
attribute [local go_sem] JW dJ fQ fO jK oz
set_option maxHeartbeats 2000000 in
theorem xU (a b c d e f g h:Int) (w:World):
 Calls Tryz.prog 69 #[dv a b c d e f g h] w fun e' w'=>e'=.returned (.bool (decide (128≤h)))∧Below w.heap.size w w':=by
 go_enter Tryz.func69,Tryz.ntmps69
 go_wp2
 go_ret
 exact⟨rfl,(by (repeat (first | (with_reducible exact Below.refl _ _) | (with_reducible assumption) | (with_reducible refine Below.drew ?_) | (with_reducible refine below_draws ?_ _) | ((with_reducible refine Below.setCell ?_ ?_ _);rotate_left;(first | (with_reducible exact Nat.le_refl _) | (focus (simp;done)) | (focus (simp;omega)) | omega)) | ((with_reducible refine Below.alloc ?_ ?_ _);rotate_left;(first | (with_reducible exact Nat.le_refl _) | (focus (simp;done)) | (focus (simp;omega)) | omega)))))⟩
set_option maxHeartbeats 2000000 in
theorem Vh (n:Int) (h0:0≤n) (h1:n≤9223372036854775807) (w:World):
 Calls Tryz.prog 51 #[.int .i64 n] w fun e w'=>e=.returned (.int .u64 n)∧Below w.heap.size w w':=by
 have hu:IntKind.u64.wrap n=n:=by rw[wrap_u64];omega
 have hd:decide (128≤n / 256 / 256 / 256 / 256 / 256 / 256 / 256 % 256)=false:=by simp;omega
 have hw:wrap64 n=n:=by unfold wrap64;omega
 have hN:=Lib.hid (Fh n h0 (by omega))
 have h2:n≤18446744073709551615:=by omega
 go_enter Tryz.func51,Tryz.ntmps51
 go_wp2_with fail
 refine (SC _ _ hu h0 h2 _).mono ?_
 rintro e w1 ⟨rfl,hb1⟩
 go_wp2_with fail
 refine (xU _ _ _ _ _ _ _ _ _).mono ?_
 rintro e w2 ⟨rfl,hb2⟩
 obtain⟨hc2,hf2⟩:=Nw hb2
 go_wp2_with fail
 refine (oO _ _ _ _ _ _ _ _ (by omega) (by omega) (by omega) (by omega) (by omega) (by omega) (by omega) (by omega) (by omega) (by omega) (by omega) (by omega) (by omega) (by omega) (by omega) (by omega) _).mono ?_
 rintro e w3 ⟨rfl,hb3⟩
 have q1:Below w.heap.size w w1:=hb1
 have q2:Below w.heap.size w w2:=Below.trans (B:=w.heap.size) (b:=w1.alloc _) ((hb1.mono (Nat.le_refl _)).alloc hb1.size _) (hb2.mono (by have:=hb1.size;simp;omega))
 have q3:Below w.heap.size w w3:=Below.trans q2 (hb3.mono q2.size)
 rw[hN.out]
 go_wp2_with fail
 go_ret
 exact⟨rfl,q3⟩
set_option maxHeartbeats 2000000 in
set_option maxRecDepth 100000 in
theorem Vg (n u:Int) (h0:-9223372036854775808≤n) (h1:n<0) (hu0:u=n+18446744073709551616) (w:World):
 Calls Tryz.prog 51 #[.int .i64 n] w fun e w'=>e=.returned (.int .u64 (-n))∧Below w.heap.size w w':=by
 have hu:IntKind.u64.wrap n=u:=by rw[wrap_u64];omega
 have hd:decide (128≤u / 256 / 256 / 256 / 256 / 256 / 256 / 256 % 256)=true:=by simp;omega
 have hlo:0≤u:=by omega
 have hhi:u≤18446744073709551615:=by omega
 have hN:=Lib.hid (Fh u hlo hhi)
 have hW:wrap64 ((18446744073709551616 - u) % 18446744073709551616)=wrap64 (-n):=by unfold wrap64;omega
 have HW:=Lib.hid hW
 have HB:=Lib.hid (D9 (-n) (by omega) (by omega))
 clear hu0 hW
 go_enter Tryz.func51,Tryz.ntmps51
 go_wp2_with fail
 refine (SC _ _ hu hlo hhi _).mono ?_
 rintro e w1 ⟨rfl,hb1⟩
 go_wp2_with fail
 refine (xU _ _ _ _ _ _ _ _ _).mono ?_
 rintro e w2 ⟨rfl,hb2⟩
 obtain⟨hc2,hf2⟩:=Nw hb2
 go_wp2_with fail
 refine (zl _ _ _ _ _ _ _ _ (by omega) (by omega) (by omega) (by omega) (by omega) (by omega) (by omega) (by omega) (by omega) (by omega) (by omega) (by omega) (by omega) (by omega) (by omega) (by omega) _).mono ?_
 rintro e w3 ⟨rfl,hb3⟩
 obtain⟨hc3,hf3⟩:=Nw hb3
 have z2:w1.heap.size<w2.heap.size:=by have:=hb2.size;simp at this;omega
 have z3:w1.heap.size<w3.heap.size:=by have:=hb3.size;omega
 go_wp2_with fail
 refine (oO _ _ _ _ _ _ _ _ (by omega) (by omega) (by omega) (by omega) (by omega) (by omega) (by omega) (by omega) (by omega) (by omega) (by omega) (by omega) (by omega) (by omega) (by omega) (by omega) _).mono ?_
 rintro e w4 ⟨rfl,hb4⟩
 have q1:Below w.heap.size w w1:=hb1
 have q2:Below w.heap.size w w2:=Below.trans (B:=w.heap.size) (b:=w1.alloc _) ((hb1.mono (Nat.le_refl _)).alloc hb1.size _) (hb2.mono (by have:=hb1.size;simp;omega))
 have q3:Below w.heap.size w w3:=Below.trans q2 (hb3.mono q2.size)
 have s1:=hb1.size
 have q4:Below w.heap.size w w4:=Below.trans (by (repeat (first | (with_reducible exact Below.refl _ _) | (with_reducible assumption) | (with_reducible refine Below.drew ?_) | (with_reducible refine below_draws ?_ _) | ((with_reducible refine Below.setCell ?_ ?_ _);rotate_left;(first | (with_reducible exact Nat.le_refl _) | (focus (simp;done)) | (focus (simp;omega)) | omega)) | ((with_reducible refine Below.alloc ?_ ?_ _);rotate_left;(first | (with_reducible exact Nat.le_refl _) | (focus (simp;done)) | (focus (simp;omega)) | omega))))) (hb4.mono (by have:=q3.size;simp;omega))
 rw[zH _ _ _ _ _ _ _ _ (by omega) (by omega) (by omega) (by omega) (by omega) (by omega) (by omega) (by omega) (by omega) (by omega) (by omega) (by omega) (by omega) (by omega) (by omega) (by omega),hN.out,HW.out]
 go_wp2_with fail
 rw[HB.out]
 go_ret
 exact⟨rfl,q4⟩
theorem xu (m:Nat) (h:m<10):List.drop m (48::List.take m [49,50,51,52,53,54,55,56,57])=[dg m]:=by
 match m,h with
 | 0,_ | 1,_ | 2,_ | 3,_ | 4,_ | 5,_ | 6,_ | 7,_ | 8,_ | 9,_=>rfl
set_option maxHeartbeats 2000000 in
theorem MV (n:Int) (m0:Nat) (hm:m0≤9223372036854775808) (hs:∀ w,Calls Tryz.prog 51 #[.int .i64 n] w fun e w'=>e=.returned (.int .u64 (m0:Int))∧Below w.heap.size w w') (hn:n<0) (w:World):
 Calls Tryz.prog 33 #[.int .i64 n] w fun e w'=>e=.returned (.string (B (45::dec m0)))∧Below w.heap.size w w':=by
 have HS:=Lib.hid hs
 clear hs
 go_enter Tryz.func33,Tryz.ntmps33
 go_wp2_with fail
 refine (HS.out _).mono ?_
 rintro e w1 ⟨rfl,hb1⟩
 go_wp2_with fail
 go_loop [3,4] (fun a s=>∃ (q m:Nat) (t:List UInt8),TI m0 q m t∧a=.int .u64 m∧s=.string (B t)) (fun a _=>(intOf a).toNat)
 case atStart=>exact⟨19,m0,[],TI.start m0,rfl,rfl⟩
 case round=>
  obtain⟨q,m,t,ht,rfl,rfl⟩:=hrel
  obtain⟨hr1,hr2⟩:=ht.room hm
  have hm9:(m:Int)≤9223372036854775808:=by omega
  have hlen:t.length≤19:=by have:=ht.len;omega
  by_cases h10:m<10
  · have hlast:=ht.last h10
    have hcut:=xu m h10
    clear ht
    go_wp2
    go_ret
    exact⟨by rw[← hlast,show m % 10=m by omega];rfl,hb1⟩
  · obtain⟨q',rfl,ht'⟩:=ht.next hm h10
    have hcut:=xu (m % 10) (by omega)
    clear ht
    go_wp2
    go_round
    case rel=>exact⟨q',m / 10,_,ht',by go_num,rfl⟩
    case measure=>simp[intOf];omega
set_option maxHeartbeats 2000000 in
theorem Ad (n:Int) (m0:Nat) (hm:m0≤9223372036854775808) (hs:∀ w,Calls Tryz.prog 51 #[.int .i64 n] w fun e w'=>e=.returned (.int .u64 (m0:Int))∧Below w.heap.size w w') (hn:¬ n<0) (w:World):
 Calls Tryz.prog 33 #[.int .i64 n] w fun e w'=>e=.returned (.string (B (dec m0)))∧Below w.heap.size w w':=by
 have HS:=Lib.hid hs
 clear hs
 go_enter Tryz.func33,Tryz.ntmps33
 go_wp2_with fail
 refine (HS.out _).mono ?_
 rintro e w1 ⟨rfl,hb1⟩
 go_wp2_with fail
 go_loop [3,4] (fun a s=>∃ (q m:Nat) (t:List UInt8),TI m0 q m t∧a=.int .u64 m∧s=.string (B t)) (fun a _=>(intOf a).toNat)
 case atStart=>exact⟨19,m0,[],TI.start m0,rfl,rfl⟩
 case round=>
  obtain⟨q,m,t,ht,rfl,rfl⟩:=hrel
  obtain⟨hr1,hr2⟩:=ht.room hm
  have hm9:(m:Int)≤9223372036854775808:=by omega
  have hlen:t.length≤19:=by have:=ht.len;omega
  by_cases h10:m<10
  · have hlast:=ht.last h10
    have hcut:=xu m h10
    clear ht
    go_wp2
    go_ret
    exact⟨by rw[← hlast,show m % 10=m by omega];rfl,hb1⟩
  · obtain⟨q',rfl,ht'⟩:=ht.next hm h10
    have hcut:=xu (m % 10) (by omega)
    clear ht
    go_wp2
    go_round
    case rel=>exact⟨q',m / 10,_,ht',by go_num,rfl⟩
    case measure=>simp[intOf];omega
theorem QW (n:Int) (h0:-9223372036854775808≤n) (h1:n≤9223372036854775807) (w:World):
 Calls Tryz.prog 33 #[.int .i64 n] w fun e w'=>e=.returned (.string (B (txt n)))∧Below w.heap.size w w':=by
 by_cases hn:n<0
 · unfold txt;rw[if_pos hn]
   refine MV n n.natAbs (by omega) (fun w=>?_) hn w
   rw[show ((n.natAbs:Nat):Int)=-n by omega]
   exact Vg n _ h0 hn rfl w
 · unfold txt;rw[if_neg hn]
   refine Ad n n.natAbs (by omega) (fun w=>?_) hn w
   rw[show ((n.natAbs:Nat):Int)=n by omega]
   exact Vh n (by omega) h1 w
end Go.Proofs.YtgpanefhaiohnaaGreatDoor
namespace Go.Proofs.YtgpanefhaiohnaaGreatDoor
open Go.RowKit
theorem SA (m:Nat) (h:m<10):dR (dg m)=true∧(dg m).toNat=48+m:=by
 have:(dg m).toNat=48+m:=by simp[dg];omega
 refine⟨?_,this⟩
 simp[dR,this];omega
theorem SB (k:Nat):∀ (m:Nat) (t:List UInt8),0<k→m<10 ^ k→∃ d,Rh k m t=d++t∧d.all dR=true∧dC d=m∧d≠[]∧(m≠0→d.head?≠some 48)∧(m=0→d=[48]):=by
 induction k with
 | zero=>intro m t h;omega
 | succ k ih=>
   intro m t _ hm
   rw[Rh]
   by_cases h10:m<10
   · rw[if_pos h10]
     obtain⟨h1,h2⟩:=SA m h10
     refine⟨[dg m],rfl,by simp[h1],?_,by simp,fun h0=>?_,fun h0=>by subst h0;rfl⟩
     · rw[nz,h2];simp[dC]
     · simp only[List.head?_cons,ne_eq,Option.some.injEq]
       intro e
       rw[e] at h2
       have:(48:UInt8).toNat=48:=rfl
       omega
   · rw[if_neg h10]
     have hk:0<k:=by
      cases k with
      | zero=>simp at hm;omega
      | succ k=>omega
     obtain⟨d,e1,e2,e3,e4,e5,e6⟩:=ih (m / 10) (dg (m % 10)::t) hk (by rw[Nat.pow_succ] at hm;omega)
     obtain⟨h1,h2⟩:=SA (m % 10) (by omega)
     refine⟨d++[dg (m % 10)],by rw[e1];simp,by rw[List.all_append,e2];simp[h1],?_,by simp,fun _=>?_,fun h0=>by omega⟩
     · rw[qw,e3,h2];omega
     · have:=e5 (by omega)
       cases d with
       | nil=>exact absurd rfl e4
       | cons x d=>simpa using this
theorem yl (m:Nat) (h:m≤9223372036854775808):(dec m).all dR=true∧dC (dec m)=m∧dec m≠[]∧(m≠0→(dec m).head?≠some 48)∧(m=0→dec m=[48]):=by
 obtain⟨d,e1,e2,e3,e4,e5,e6⟩:=SB 20 m [] (by omega) (by omega)
 rw[List.append_nil] at e1
 unfold dec
 rw[e1]
 exact⟨e2,e3,e4,e5,e6⟩
def bl (c:UInt8):Bool:=c==32||c==9
def nb (c:UInt8):Bool:=!bl c
def Yo (l:List UInt8):List UInt8:=l.dropWhile bl
def Z8 (l:List UInt8):List UInt8:=(l.reverse.dropWhile bl).reverse
def trim (l:List UInt8):List UInt8:=Yo (Z8 l)
theorem JF {motive:List UInt8→Prop} (nil:motive []) (append_singleton:∀ l c,motive l→motive (l++[c])) (l:List UInt8):motive l:=by
 have h:∀ m:List UInt8,motive m.reverse:=by
  intro m
  induction m with
  | nil=>exact nil
  | cons c m ih=>rw[List.reverse_cons];exact append_singleton _ _ ih
 have:=h l.reverse
 rwa [List.reverse_reverse] at this
def wd (l:List UInt8):List UInt8:=l.takeWhile nb
def rs (l:List UInt8):List UInt8:=Yo (l.dropWhile nb)
def numOf (l:List UInt8):Int:=if (pv l).2=0∧0≤(pv l).1∧(pv l).1≤1048576 then (pv l).1 else -1
def WS:List (List UInt8):=[[],[115,116,101,112],[110,101,120,116],[102,105,110,105,115,104],[99,111,110,116,105,110,117,101],[114,115,116,101,112],[114,110,101,120,116],[114,102,105,110,105,115,104],[114,99,111,110,116,105,110,117,101],[103,111,116,111],[98,114,101,97,107],[119,97,116,99,104],[100,101,108,101,116,101],[119,104,101,114,101],[112,114,105,110,116],[118,97,114,115],[111,117,116],[116,105,109,101],[109,97,114,107,115]]
def ws (k:Nat):List UInt8:=WS.getD k []
def kd (f:List UInt8):Nat→Nat
 | 0=>0
 | i+1=>if 0<i∧ws i=f then i else kd f i
def kindOf (f:List UInt8):Nat:=kd f 19
abbrev C3:=Nat×Int×List UInt8
def bad:C3:=(0,0,[])
def ifw:List UInt8:=[105,102]
def aag (n:Int) (m:List UInt8):C3:=
 if n<1 then bad else if m=[] then (10,n,[]) else if wd m=ifw∧rs m≠[] then (10,n,rs m) else bad
def ck (k:Nat) (r:List UInt8):C3:=
 if k=0 then bad
 else if k=9∨k=12 then (if numOf r<0 then bad else (k,numOf r,[]))
 else if k=10 then aag (numOf (wd r)) (rs r)
 else if k=11∨k=14 then (if r=[] then bad else (k,0,r))
 else if r=[] then (k,0,[]) else bad
def cp (l:List UInt8):C3:=
 if 1000<l.length∨(10:UInt8)∈l then bad else ck (kindOf (wd (trim l))) (rs (trim l))
end Go.Proofs.YtgpanefhaiohnaaGreatDoor
namespace Go.Proofs.YtgpanefhaiohnaaGreatDoor
open Go.RowKit
theorem Jo (n:Int) (h0:-9223372036854775808≤n) (h1:n≤9223372036854775807):pv (txt n)=(n,0):=by
 obtain⟨d1,d2,d3,d4,d5⟩:=yl n.natAbs (by omega)
 unfold txt
 by_cases hn:n<0
 · rw[if_pos hn]
   have hd:¬ (dec n.natAbs=[]∨(dec n.natAbs).head? = some 48):=by
    rintro (h | h)
    · exact d3 h
    · exact d4 (by omega) h
   simp only[pv,if_true,if_neg hd]
   unfold iD
   rw[if_pos d1,if_pos rfl,if_pos (by omega),d2]
   congr 1;omega
 · rw[if_neg hn]
   have hv:iD false (dec n.natAbs)=(n,0):=by
    unfold iD
    rw[if_pos d1,if_neg (by decide),if_pos (by omega),d2]
    congr 1;omega
   generalize dec n.natAbs=d at *
   cases d with
   | nil=>exact absurd rfl d3
   | cons c t=>
     have hc:dR c=true:=by simp only[List.all_cons,Bool.and_eq_true] at d1;exact d1.1
     have h45:¬ c=45:=by intro e;subst e;revert hc;decide
     have h48:¬ (c=48∧t≠[]):=by
      rintro⟨rfl,ht⟩
      by_cases hz:n.natAbs=0
      · have:=d5 hz
        simp at this
        exact ht this
      · exact d4 hz rfl
     simp only[pv,if_neg h45,if_neg h48]
     exact hv
theorem NU {c:UInt8} (h:dR c=true):c.toNat - 48<10∧48≤c.toNat:=by
 simp[dR] at h;omega
theorem uy {d:List UInt8} (h:d.all dR=true) (hne:d≠[]) (h0:d.head?≠some 48):0<dC d:=by
 have:=Ph d hne h h0
 have:0<10 ^ (d.length - 1):=Nat.pow_pos (by decide)
 omega
theorem VC:∀ (a b:List UInt8),a.all dR=true→b.all dR=true→a.head?≠some 48→b.head?≠some 48→dC a=dC b→a=b:=by
 intro a
 induction a using JF with
 | nil=>
   intro b _ hb _ h0 h
   by_cases e:b=[]
   · exact e.symm
   · have:=uy hb e h0
     rw[← h] at this
     exact absurd this (by decide)
 | append_singleton l c ih=>
   intro b ha hb h0 h1 h
   rcases (show b=[]∨∃ t e,b=t++[e] by
    induction b using JF with
    | nil=>exact .inl rfl
    | append_singleton t e _=>exact .inr ⟨t,e,rfl⟩) with rfl | ⟨t,e,rfl⟩
   · have:=uy ha (by simp) h0
     rw[h] at this
     exact absurd this (by decide)
   · rw[qw,qw] at h
     rw[List.all_append,Bool.and_eq_true] at ha hb
     have hc:=NU (c:=c) (by simpa using ha.2)
     have he:=NU (c:=e) (by simpa using hb.2)
     have hl:dC l=dC t:=by omega
     have hce:c=e:=UInt8.toNat.inj (by omega)
     have hh:∀ {l:List UInt8} {c:UInt8},(l++[c]).head?≠some 48→l.head?≠some 48:=fun {l c} h e=>h (by cases l with
      | nil=>cases e
      | cons x l=>exact e)
     rw[ih t ha.1 hb.1 (hh h0) (hh h1) hl,hce]
theorem G7 {d:List UInt8} (h:d.all dR=true) (hne:d≠[]) (h0:d.head?≠some 48∨d=[48]) (hle:dC d≤9223372036854775808):dec (dC d)=d:=by
 obtain⟨d1,d2,d3,d4,d5⟩:=yl (dC d) hle
 rcases h0 with h0 | rfl
 · have hp:=uy h hne h0
   exact VC _ _ d1 h (d4 (by omega)) h0 d2
 · exact d5 rfl
theorem Vy {l:List UInt8} {n:Int} (h:pv l=(n,0)):txt n=l∧-9223372036854775808≤n∧n≤9223372036854775807:=by
 cases l with
 | nil=>cases h
 | cons c d=>
   simp only[pv] at h
   split at h
   · rename_i hc
     subst hc
     split at h
     · cases h
     · rename_i hd
       unfold iD at h
       split at h
       · rename_i hall
         rw[if_pos rfl] at h
         split at h
         · rename_i hle
           cases h
           have hne:d≠[]:=fun e=>hd (.inl e)
           have h0:d.head?≠some 48:=fun e=>hd (.inr e)
           have hp:=uy hall hne h0
           refine⟨?_,by omega,by omega⟩
           unfold txt
           rw[if_pos (by omega),Int.natAbs_neg,Int.natAbs_natCast,G7 hall hne (.inl h0) hle]
         · cases h
       · cases h
   · split at h
     · cases h
     · rename_i h45 h48
       unfold iD at h
       split at h
       · rename_i hall
         rw[if_neg (by decide)] at h
         split at h
         · rename_i hlt
           cases h
           refine⟨?_,by omega,by omega⟩
           unfold txt
           rw[if_neg (by omega),Int.natAbs_natCast]
           refine G7 hall (by simp) ?_ (by omega)
           by_cases hc:c=48
           · subst hc
             by_cases hd:d=[]
             · subst hd;exact .inr rfl
             · exact absurd ⟨rfl,hd⟩ h48
           · exact .inl (by simpa using hc)
         · cases h
       · cases h
theorem qp (n:Int) (h0:-9223372036854775808≤n) (h1:n≤9223372036854775807):∀ c∈txt n,c≠32∧c≠10:=by
 obtain⟨d1,_⟩:=yl n.natAbs (by omega)
 have key:∀ c∈dec n.natAbs,c≠32∧c≠10:=fun c hc=>by
  have:=List.all_eq_true.1 d1 c hc
  simp[dR] at this
  exact⟨fun e=>by subst e;simp at this,fun e=>by subst e;simp at this⟩
 unfold txt
 split
 · intro c hc
   rcases List.mem_cons.1 hc with rfl | hc
   · decide
   · exact key c hc
 · exact key
def aW (c:UInt8):List UInt8→List (List UInt8)
 | []=>[[]]
 | x::l=>if x=c then []::aW c l else match aW c l with
   | h::t=>(x::h)::t
   | []=>[[x]]
theorem jf (c:UInt8) (l:List UInt8):aW c l≠[]:=by
 cases l with
 | nil=>simp[aW]
 | cons x l=>
   rw[aW]
   split
   · simp
   · split<;>simp
theorem iE {c:UInt8}:∀ {l:List UInt8},(∀ x∈l,x≠c)→aW c l=[l]
 | [],_=>rfl
 | x::l,h=>by rw[aW,if_neg (h x (by simp)),iE fun y hy=>h y (by simp[hy])]
theorem fV {c:UInt8} (r:List UInt8):∀ {l:List UInt8},(∀ x∈l,x≠c)→aW c (l++c::r)=l::aW c r
 | [],_=>by rw[List.nil_append,aW,if_pos rfl]
 | x::l,h=>by rw[List.cons_append,aW,if_neg (h x (by simp)),fV r fun y hy=>h y (by simp[hy])]
theorem nX {c:UInt8}:∀ {l:List UInt8},∀ x∈aW c l,∀ y∈x,y≠c
 | [],x,hx=>by
   rw[aW] at hx
   rw[List.mem_singleton.1 hx]
   intro y hy;simp at hy
 | z::l,x,hx=>by
   rw[aW] at hx
   have ih:=nX (c:=c) (l:=l)
   split at hx
   · rcases List.mem_cons.1 hx with rfl | hx
     · intro y hy;simp at hy
     · exact ih x hx
   · rename_i hz
     split at hx
     · rename_i h t he
       rcases List.mem_cons.1 hx with rfl | hx
       · intro y hy
         rcases List.mem_cons.1 hy with rfl | hy
         · exact hz
         · exact ih h (by rw[he];simp) y hy
       · exact ih x (by rw[he];simp[hx])
     · rename_i he
       exact absurd he (jf c l)
def dG (l:List (List UInt8)):List UInt8:=l.flatMap (·++[10])
theorem gq (x:List UInt8) (l:List (List UInt8)):dG (x::l)=x++10::dG l:=by simp[dG]
theorem pY (a b:List (List UInt8)):dG (a++b)=dG a++dG b:=by simp[dG]
theorem Aq (r:List UInt8):∀ {l:List (List UInt8)},(∀ x∈l,∀ y∈x,y≠10)→aW 10 (dG l++r)=l++aW 10 r
 | [],_=>rfl
 | x::l,h=>by
   rw[gq,List.append_assoc,List.cons_append,fV _ (h x (by simp)),Aq r fun y hy=>h y (by simp[hy])]
   rfl
def bC (s:List UInt8):List (List UInt8):=if (aW 10 s).getLast? = some [] then (aW 10 s).dropLast else aW 10 s
theorem Dh {l:List (List UInt8)} (h:∀ x∈l,∀ y∈x,y≠10):bC (dG l)=l:=by
 have e:aW 10 (dG l)=l++[[]]:=by
  have:=Aq [] h
  rw[List.append_nil] at this
  rw[this];rfl
 unfold bC
 rw[e,if_pos (by simp),List.dropLast_concat]
theorem wQ:∀ (s:List UInt8),∃ l last,aW 10 s=l++[last]∧s=dG l++last
 | []=>⟨[],[],rfl,rfl⟩
 | x::s=>by
   obtain⟨l,last,h1,h2⟩:=wQ s
   rw[aW]
   split
   · rename_i hx
     subst hx
     exact⟨[]::l,last,by rw[h1];rfl,by rw[gq,h2];rfl⟩
   · rw[h1]
     cases l with
     | nil=>exact⟨[],x::last,rfl,by rw[h2];rfl⟩
     | cons y l=>exact⟨(x::y)::l,last,rfl,by rw[h2,gq,gq];rfl⟩
theorem Iz:∀ (l:List (List UInt8)),l≠[]→(dG l).getLast? = some 10
 | [],h=>absurd rfl h
 | [x],_=>by simp[dG]
 | x::y::l,_=>by
   rw[gq,List.getLast?_append]
   have:=Iz (y::l) (by simp)
   rw[List.getLast?_cons,this]
   rfl
theorem uP {s:List UInt8} (h:s=[]∨s.getLast? = some 10):dG (bC s)=s:=by
 obtain⟨l,last,h1,h2⟩:=wQ s
 have hm:∀ y∈last,y≠10:=nX (l:=s) last (by rw[h1];simp)
 have hl:last=[]:=by
  rcases h with rfl | h
  · have:aW 10 ([]:List UInt8)=[[]]:=rfl
    rw[this] at h1
    cases l with
    | nil=>simpa using h1.symm
    | cons a l=>simp at h1
  · by_cases e:last=[]
    · exact e
    · rw[h2,List.getLast?_append] at h
      obtain⟨z,hz⟩:∃ z,last.getLast? = some z:=by
       cases hq:last.getLast? with
       | none=>rw[List.getLast?_eq_none_iff] at hq;exact absurd hq e
       | some z=>exact⟨z,rfl⟩
      rw[hz] at h
      simp at h
      subst h
      exact absurd rfl (hm _ (List.mem_of_getLast? hz))
 subst hl
 unfold bC
 rw[h1,if_pos (by simp),List.dropLast_concat,h2,List.append_nil]
theorem uT {s:List UInt8}:∀ x∈bC s,∀ y∈x,y≠10:=by
 intro x hx
 unfold bC at hx
 split at hx
 · exact nX x ((List.dropLast_sublist _).subset hx)
 · exact nX x hx
end Go.Proofs.YtgpanefhaiohnaaGreatDoor
namespace Go.Proofs.YtgpanefhaiohnaaGreatDoor
open Go.RowKit
structure gu where
 fuel:Int
 heap:Int
 stack:Int
 ins:List Int
 draws:List Int
 every:Int
 keep:Int
 hot:Int
 evict:List Int
 acts:List (Int×Int×Int)
 names:List (List UInt8)
 src:List UInt8
 lines:List (List UInt8)
def iH:List UInt8:=[102,117,101,108]
def iI:List UInt8:=[104,101,97,112]
def fM:List UInt8:=[115,116,97,99,107]
def qx:List UInt8:=[105,110]
def eG:List UInt8:=[100,114,97,119]
def fK:List UInt8:=[101,118,101,114,121]
def iJ:List UInt8:=[107,101,101,112]
def lG:List UInt8:=[104,111,116]
def dP:List UInt8:=[101,118,105,99,116]
def Pi:List UInt8:=[117,112]
def lC:List UInt8:=[100,111,119,110]
def oh:List UInt8:=[98,97,115,101]
def dE:List UInt8:=[112,114,111,103,114,97,109]
def fD:List UInt8:=[101,110,100]
def numsOf:List (List UInt8)→Option (List Int)
 | []=>some []
 | x::l=>if (pv x).2=0 then (numsOf l).map ((pv x).1::·) else none
def single (x:gu) (w:List UInt8) (n:Int):Option gu:=
 if w=iH then some { x with fuel:=n } else if w=iI then some { x with heap:=n } else if w=fM then some { x with stack:=n } else if w=fK then some { x with every:=n }
 else if w=iJ then some { x with keep:=n } else if w=lG then some { x with hot:=n } else if w=oh then some { x with acts:=x.acts++[(n,0,3)],names:=x.names++[[]] } else none
def named (nm:List UInt8→Bool) (x:gu) (w:List UInt8) (n:Int) (a:List UInt8):Option gu:=
 if nm a=false then none else if w=Pi then some { x with acts:=x.acts++[(n,0,1)],names:=x.names++[a] } else if w=lC then some { x with acts:=x.acts++[(n,0,2)],names:=x.names++[a] } else none
def gZ (nm:List UInt8→Bool) (x:gu) (line:List UInt8):Option gu:=match aW 32 line with
 | []=>none
 | w::r=>
   if w=qx then (numsOf r).map fun l=>{ x with ins:=l }
   else if w=eG then (numsOf r).map fun l=>{ x with draws:=l }
   else if w=dP then (numsOf r).map fun l=>{ x with evict:=l }
   else match r with
    | [a]=>if numOf a<0 then none else single x w (numOf a)
    | [a,b]=>if numOf a<0 then none else named nm x w (numOf a) b
    | _=>none
def x0:gu:=⟨1000,1000,100,[],[],100,8,0,[],[],[],[],[]⟩
def eY (nm:List UInt8→Bool):gu→Nat→List (List UInt8)→Except (Nat×Int) (gu×List (List UInt8))
 | _,_,[]=>.error (0,15)
 | x,i,l::r=>if l=dE then .ok (x,r) else match gZ nm x l with
   | none=>.error (i+1,24)
   | some y=>eY nm y (i+1) r
def uo:List UInt8→List (List UInt8)→Option (List UInt8×List (List UInt8))
 | _,[]=>none
 | s,l::r=>if l=fD then some (s,r) else uo (s++l++[10]) r
def oq (nm:List UInt8→Bool) (s:List UInt8):Except (Nat×Int) gu:=
 if 131072<s.length then .error (0,3) else match eY nm x0 0 (bC s) with
  | .error e=>.error e
  | .ok (x,r)=>match uo [] r with
    | none=>.error (0,15)
    | some (c,t)=>if 1000<t.length then .error (0,13) else .ok { x with src:=c,lines:=t }
def row (w:List UInt8) (l:List Int):List UInt8:=w++l.flatMap fun n=>32::txt n
def gY (a:Int×Int×Int) (n:List UInt8):List UInt8:=if a.2.2=1 then Pi++32::(txt a.1++32::n) else if a.2.2=2 then lC++32::(txt a.1++32::n) else row oh [a.1]
def bP:List (Int×Int×Int)→List (List UInt8)→List (List UInt8)
 | a::l,n::k=>gY a n::bP l k
 | _,_=>[]
def uM (x:gu):List (List UInt8):=[row iH [x.fuel],row iI [x.heap],row fM [x.stack],row qx x.ins,row eG x.draws,row fK [x.every],row iJ [x.keep],row lG [x.hot],row dP x.evict]++bP x.acts x.names
def textS (x:gu):List UInt8:=dG (uM x++[dE])++x.src++dG (fD::x.lines)
def AP (n:Int):Prop:=-9223372036854775808≤n∧n≤9223372036854775807
def Small (n:Int):Prop:=0≤n∧n≤1048576
def wH (nm:List UInt8→Bool) (a:Int×Int×Int) (n:List UInt8):Prop:=Small a.1∧a.2.1=0∧(((a.2.2=1∨a.2.2=2)∧nm n=true)∨(a.2.2=3∧n=[]))
inductive kW (nm:List UInt8→Bool):List (Int×Int×Int)→List (List UInt8)→Prop
 | nil:kW nm [] []
 | cons {a n l k}:wH nm a n→kW nm l k→kW nm (a::l) (n::k)
structure Pn (nm:List UInt8→Bool) (x:gu):Prop where
 fuel:Small x.fuel
 heap:Small x.heap
 stack:Small x.stack
 every:Small x.every
 keep:Small x.keep
 hot:Small x.hot
 ins:∀ n∈x.ins,AP n
 draws:∀ n∈x.draws,AP n
 evict:∀ n∈x.evict,AP n
 acts:kW nm x.acts x.names
 src:x.src=[]∨x.src.getLast? = some 10
 noend:∀ l∈bC x.src,l≠fD
 lines:∀ l∈x.lines,∀ c∈l,c≠10
 many:x.lines.length≤1000
theorem zZ (w:List UInt8) (n:Int) (l:List Int):row w (n::l)=w++32::row (txt n) l:=by simp[row]
theorem ng:∀ (l:List Int) (w:List UInt8),(∀ c∈w,c≠32)→(∀ n∈l,AP n)→aW 32 (row w l)=w::l.map txt
 | [],w,hw,_=>by rw[show row w []=w by simp[row],iE hw];rfl
 | n::l,w,hw,hl=>by
   have h:=hl n (by simp)
   rw[zZ,fV _ hw,ng l (txt n) (fun c hc=>(qp n h.1 h.2 c hc).1) fun m hm=>hl m (by simp[hm])]
   rfl
theorem nK:∀ (l:List Int),(∀ n∈l,AP n)→numsOf (l.map txt)=some l
 | [],_=>rfl
 | n::l,h=>by
   have h1:=h n (by simp)
   rw[List.map_cons,numsOf,Jo n h1.1 h1.2,if_pos rfl,nK l fun m hm=>h m (by simp[hm])]
   rfl
theorem qm (n:Int) (h:Small n):numOf (txt n)=n:=by
 unfold numOf
 rw[Jo n (by have:=h.1;omega) (by have:=h.2;omega),if_pos ⟨rfl,h.1,h.2⟩]
theorem dX {n:Int} (h:Small n):AP n:=⟨by have:=h.1;omega,by have:=h.2;omega⟩
section
variable {nm:List UInt8→Bool}
theorem nR (x:gu) (w:List UInt8) (n:Int) (h:Small n) (hw:∀ c∈w,c≠32) (h1:w≠qx) (h2:w≠eG) (h3:w≠dP):gZ nm x (row w [n])=single x w n:=by
 unfold gZ
 rw[ng [n] w hw (fun m hm=>by rw[List.mem_singleton.1 hm];exact dX h)]
 simp only[List.map_cons,List.map_nil,if_neg h1,if_neg h2,if_neg h3]
 rw[qm n h,if_neg (by have:=h.1;omega)]
theorem Ve (x:gu):gZ nm x dE=none:=by
 unfold gZ
 rw[show aW 32 dE=[dE] by decide]
 simp only
 rw[if_neg (by decide),if_neg (by decide),if_neg (by decide)]
theorem gQ {x y:gu} {i:Nat} {l:List UInt8} {r:List (List UInt8)} (h:gZ nm x l=some y):eY nm x i (l::r)=eY nm y (i+1) r:=by
 rw[eY,if_neg (fun e=>by rw[e,Ve] at h;cases h),h]
theorem Xv {x:gu} {a:Int×Int×Int} {n:List UInt8} (hn:∀ n,nm n=true→∀ c∈n,c≠32∧c≠10) (h:wH nm a n):gZ nm x (gY a n)=some { x with acts:=x.acts++[a],names:=x.names++[n] }:=by
 obtain⟨t,f,k⟩:=a
 obtain⟨h1,h2,h3⟩:=h
 simp only at h1 h2 h3
 subst h2
 have ht:∀ c∈txt t,c≠32:=fun c hc=>(qp t (dX h1).1 (dX h1).2 c hc).1
 have nn:¬ numOf (txt t)<0:=by rw[qm t h1];have:=h1.1;omega
 rcases h3 with ⟨rfl | rfl,hnm⟩ | ⟨rfl,rfl⟩
 · unfold gZ gY
   rw[if_pos rfl,fV _ (by decide),fV _ ht,iE fun c hc=>(hn n hnm c hc).1]
   simp only
   rw[if_neg (by decide),if_neg (by decide),if_neg (by decide),if_neg nn,qm t h1]
   unfold named
   rw[if_neg (by rw[hnm];decide),if_pos rfl]
 · unfold gZ gY
   rw[if_neg (show ¬ (2:Int)=1 by decide),if_pos rfl,fV _ (by decide),fV _ ht,iE fun c hc=>(hn n hnm c hc).1]
   simp only
   rw[if_neg (by decide),if_neg (by decide),if_neg (by decide),if_neg nn,qm t h1]
   unfold named
   rw[if_neg (by rw[hnm];decide),if_neg (by decide),if_pos rfl]
 · unfold gY
   rw[if_neg (show ¬ (3:Int)=1 by decide),if_neg (show ¬ (3:Int)=2 by decide)]
   rw[nR x oh t h1 (by decide) (by decide) (by decide) (by decide)]
   rfl
theorem Qi (hn:∀ n,nm n=true→∀ c∈n,c≠32∧c≠10) {l:List (Int×Int×Int)} {k:List (List UInt8)} (h:kW nm l k):∀ (x:gu) (i:Nat) (r:List (List UInt8)),
 eY nm x i (bP l k++r)=eY nm { x with acts:=x.acts++l,names:=x.names++k } (i+l.length) r:=by
 induction h with
 | nil=>intro x i r;simp[bP]
 | cons h1 _ ih=>
   intro x i r
   rw[bP,List.cons_append,gQ (Xv hn h1),ih]
   simp only[List.append_assoc,List.cons_append,List.nil_append,List.length_cons]
   congr 1;omega
theorem Au (r:List (List UInt8)):∀ (l:List (List UInt8)) (s:List UInt8),(∀ x∈l,x≠fD)→uo s (l++fD::r)=some (s++dG l,r)
 | [],s,_=>by simp[uo,dG]
 | x::l,s,h=>by
   rw[List.cons_append,uo,if_neg (h x (by simp)),Au r l _ fun y hy=>h y (by simp[hy]),gq]
   simp
theorem o5 (w:List UInt8) (l:List Int) (hw:∀ c∈w,c≠10) (hl:∀ n∈l,AP n):∀ c∈row w l,c≠10:=by
 intro c hc
 unfold row at hc
 rcases List.mem_append.1 hc with hc | hc
 · exact hw c hc
 · obtain⟨n,hn,hc⟩:=List.mem_flatMap.1 hc
   rcases List.mem_cons.1 hc with rfl | hc
   · decide
   · exact (qp n (hl n hn).1 (hl n hn).2 c hc).2
theorem Rt (hn:∀ n,nm n=true→∀ c∈n,c≠32∧c≠10) {a:Int×Int×Int} {n:List UInt8} (h:wH nm a n):∀ c∈gY a n,c≠10:=by
 obtain⟨h1,h2,h3⟩:=h
 have ht:∀ c∈txt a.1,c≠10:=fun c hc=>(qp _ (dX h1).1 (dX h1).2 c hc).2
 have key:∀ (w:List UInt8),(∀ c∈w,c≠10)→nm n=true→∀ c∈w++32::(txt a.1++32::n),c≠10:=fun w hw hnm c hc=>by
  rcases List.mem_append.1 hc with hc | hc
  · exact hw c hc
  rcases List.mem_cons.1 hc with rfl | hc
  · decide
  rcases List.mem_append.1 hc with hc | hc
  · exact ht c hc
  rcases List.mem_cons.1 hc with rfl | hc
  · decide
  · exact (hn n hnm c hc).2
 unfold gY
 split
 · rename_i e
   rcases h3 with ⟨_,hnm⟩ | ⟨e',_⟩
   · exact key Pi (by decide) hnm
   · omega
 · split
   · rename_i e
     rcases h3 with ⟨_,hnm⟩ | ⟨e',_⟩
     · exact key lC (by decide) hnm
     · omega
   · exact o5 _ _ (by decide) fun m hm=>by rw[List.mem_singleton.1 hm];exact dX h1
theorem Pv (hn:∀ n,nm n=true→∀ c∈n,c≠32∧c≠10) {l:List (Int×Int×Int)} {k:List (List UInt8)} (h:kW nm l k):∀ x∈bP l k,∀ c∈x,c≠10:=by
 induction h with
 | nil=>intro x hx;simp[bP] at hx
 | cons h1 _ ih=>
   intro x hx
   rw[bP] at hx
   rcases List.mem_cons.1 hx with rfl | hx
   · exact Rt hn h1
   · exact ih x hx
theorem Qj (hn:∀ n,nm n=true→∀ c∈n,c≠32∧c≠10) {x:gu} (M:Pn nm x):∀ l∈uM x,∀ c∈l,c≠10:=by
 have one:∀ (w:List UInt8) (n:Int),(∀ c∈w,c≠10)→Small n→∀ c∈row w [n],c≠10:=fun w n hw h=>o5 w [n] hw fun m hm=>by rw[List.mem_singleton.1 hm];exact dX h
 intro l hl
 unfold uM at hl
 rcases List.mem_append.1 hl with hl | hl
 · simp only[List.mem_cons,List.not_mem_nil,or_false] at hl
   rcases hl with rfl | rfl | rfl | rfl | rfl | rfl | rfl | rfl | rfl
   · exact one _ _ (by decide) M.fuel
   · exact one _ _ (by decide) M.heap
   · exact one _ _ (by decide) M.stack
   · exact o5 _ _ (by decide) M.ins
   · exact o5 _ _ (by decide) M.draws
   · exact one _ _ (by decide) M.every
   · exact one _ _ (by decide) M.keep
   · exact one _ _ (by decide) M.hot
   · exact o5 _ _ (by decide) M.evict
 · exact Pv hn M.acts l hl
theorem zM (hn:∀ n,nm n=true→∀ c∈n,c≠32∧c≠10) {x:gu} (M:Pn nm x) (hlen:(textS x).length≤131072):oq nm (textS x)=.ok x:=by
 have hls:bC (textS x)=uM x++dE::(bC x.src++fD::x.lines):=by
  have e:textS x=dG (uM x++dE::(bC x.src++fD::x.lines)):=by
   unfold textS
   rw[show uM x++dE::(bC x.src++fD::x.lines)=(uM x++[dE])++(bC x.src++(fD::x.lines)) by simp,pY (uM x++[dE]),pY (bC x.src),uP M.src,List.append_assoc]
  rw[e]
  refine Dh fun l hl=>?_
  rcases List.mem_append.1 hl with hl | hl
  · exact Qj hn M l hl
  rcases List.mem_cons.1 hl with rfl | hl
  · decide
  rcases List.mem_append.1 hl with hl | hl
  · exact uT l hl
  rcases List.mem_cons.1 hl with rfl | hl
  · decide
  · exact M.lines l hl
 have nums:∀ (y:gu) (w:List UInt8) (l:List Int),(∀ c∈w,c≠32)→(∀ n∈l,AP n)→gZ nm y (row w l)=if w=qx then some { y with ins:=l } else if w=eG then some { y with draws:=l } else if w=dP then some { y with evict:=l } else gZ nm y (row w l):=by
  intro y w l hw hl
  by_cases h1:w=qx
  · rw[if_pos h1];unfold gZ;rw[ng l w hw hl];simp only[if_pos h1];rw[nK l hl];rfl
  · rw[if_neg h1]
    by_cases h2:w=eG
    · rw[if_pos h2];unfold gZ;rw[ng l w hw hl];simp only[if_neg h1,if_pos h2];rw[nK l hl];rfl
    · rw[if_neg h2]
      by_cases h3:w=dP
      · rw[if_pos h3];unfold gZ;rw[ng l w hw hl];simp only[if_neg h1,if_neg h2,if_pos h3];rw[nK l hl];rfl
      · rw[if_neg h3]
 have hhead:∃ i,eY nm x0 0 (uM x++dE::(bC x.src++fD::x.lines))=eY nm { x with src:=[],lines:=[] } i (dE::(bC x.src++fD::x.lines)):=by
  refine⟨0+1+1+1+1+1+1+1+1+1+x.acts.length,?_⟩
  unfold uM
  simp only[List.cons_append,List.nil_append]
  rw[gQ (nR _ iH _ M.fuel (by decide) (by decide) (by decide) (by decide)),gQ (nR _ iI _ M.heap (by decide) (by decide) (by decide) (by decide)),gQ (nR _ fM _ M.stack (by decide) (by decide) (by decide) (by decide)),
   gQ (nums _ qx _ (by decide) M.ins),gQ (nums _ eG _ (by decide) M.draws),
   gQ (nR _ fK _ M.every (by decide) (by decide) (by decide) (by decide)),gQ (nR _ iJ _ M.keep (by decide) (by decide) (by decide) (by decide)),gQ (nR _ lG _ M.hot (by decide) (by decide) (by decide) (by decide)),
   gQ (nums _ dP _ (by decide) M.evict),Qi hn M.acts]
  rfl
 obtain⟨i,hhead⟩:=hhead
 unfold oq
 rw[if_neg (by omega),hls,hhead,eY,if_pos rfl]
 simp only
 rw[Au _ _ _ M.noend]
 simp only[List.nil_append]
 rw[if_neg (by have:=M.many;omega),uP M.src]
end
end Go.Proofs.YtgpanefhaiohnaaGreatDoor
namespace Go.Proofs.YtgpanefhaiohnaaGreatDoor
open Go.RowKit
theorem nV (c:UInt8):∀ l:List UInt8,(dG (aW c l)).length=l.length+1
 | []=>rfl
 | x::l=>by
   have ih:=nV c l
   rw[aW]
   split
   · rw[gq];simp[ih]
   · split
     · rename_i h t he
       rw[he,gq] at ih
       rw[gq]
       simp at ih ⊢;omega
     · rename_i he
       exact absurd he (jf c l)
theorem dB (a b:List (List UInt8)):(dG (a++b)).length=(dG a).length+(dG b).length:=by rw[pY,List.length_append]
theorem bH (x:List UInt8) (b:List (List UInt8)):(dG (x::b)).length=x.length+1+(dG b).length:=by rw[gq];simp;omega
theorem uS (s:List UInt8):(dG (bC s)).length≤s.length+1:=by
 have h:=nV 10 s
 unfold bC
 split
 · have e:aW 10 s=(aW 10 s).dropLast++[(aW 10 s).getLast (jf _ _)]:=(List.dropLast_concat_getLast _).symm
   rw[e,dB] at h
   omega
 · omega
theorem Xt (w:List UInt8):∀ l:List Int,(row w l).length+1=(dG (w::l.map txt)).length:=by
 intro l
 rw[bH]
 have:∀ l:List Int,(l.flatMap fun n=>32::txt n).length=(dG (l.map txt)).length:=by
  intro l
  induction l with
  | nil=>rfl
  | cons n l ih=>rw[List.map_cons,bH,List.flatMap_cons,List.length_append,ih];simp
 unfold row
 rw[List.length_append,this]
 omega
theorem lS:∀ {r:List (List UInt8)} {l:List Int},numsOf r=some l→r=l.map txt∧∀ n∈l,AP n
 | [],l,h=>by cases h;exact⟨rfl,fun n hn=>by simp at hn⟩
 | x::r,l,h=>by
   rw[numsOf] at h
   split at h
   · rename_i h0
     rw[Option.map_eq_some_iff] at h
     obtain⟨m,hm,rfl⟩:=h
     obtain⟨h1,h2⟩:=lS hm
     have hx:=Vy (l:=x) (n:=(pv x).1) (by rw[← h0])
     refine⟨by rw[List.map_cons,← h1,hx.1],fun n hn=>?_⟩
     rcases List.mem_cons.1 hn with rfl | hn
     · exact hx.2
     · exact h2 n hn
   · cases h
theorem zI {a:List UInt8} (h:¬ numOf a<0):Small (numOf a)∧txt (numOf a)=a:=by
 unfold numOf at h⊢
 split at h
 · rename_i hc
   rw[if_pos hc]
   exact⟨hc.2,(Vy (by rw[← hc.1])).1⟩
 · exact absurd (by decide) h
structure HM (nm:List UInt8→Bool) (x:gu):Prop where
 fuel:Small x.fuel
 heap:Small x.heap
 stack:Small x.stack
 every:Small x.every
 keep:Small x.keep
 hot:Small x.hot
 ins:∀ n∈x.ins,AP n
 draws:∀ n∈x.draws,AP n
 evict:∀ n∈x.evict,AP n
 acts:kW nm x.acts x.names
def hl (x:gu):Nat:=(row iH [x.fuel]).length+1+((row iI [x.heap]).length+1+((row fM [x.stack]).length+1+((row qx x.ins).length+1+((row eG x.draws).length+1+((row fK [x.every]).length+1+((row iJ [x.keep]).length+1+((row lG [x.hot]).length+1+((row dP x.evict).length+1+(dG (bP x.acts x.names)).length))))))))
theorem ZF (x:gu):(dG (uM x)).length=hl x:=by
 unfold uM hl
 rw[dB]
 simp only[bH]
 have z:(dG ([]:List (List UInt8))).length=0:=rfl
 omega
section
variable {nm:List UInt8→Bool}
theorem oQ {l:List (Int×Int×Int)} {k:List (List UInt8)} (h:kW nm l k) {a:Int×Int×Int} {n:List UInt8} (ha:wH nm a n):kW nm (l++[a]) (k++[n])∧bP (l++[a]) (k++[n])=bP l k++[gY a n]:=by
 induction h with
 | nil=>exact⟨.cons ha .nil,rfl⟩
 | cons h1 _ ih=>exact⟨.cons h1 ih.1,by rw[List.cons_append,List.cons_append,bP,ih.2];rfl⟩
theorem Vf {x y:gu} {l:List UInt8} (h:gZ nm x l=some y) (H:HM nm x):HM nm y∧hl y≤hl x+l.length+1:=by
 have hsl:=nV 32 l
 unfold gZ at h
 split at h
 · cases h
 · rename_i w r hs
   rw[hs] at hsl
   have rowl:∀ {ns:List Int} (w':List UInt8),w=w'→r=ns.map txt→(row w' ns).length=l.length:=fun {ns} w' e hr=>by
    have:=Xt w' ns
    rw[← hr,← e] at this
    rw[← e];omega
   split at h
   · rename_i hw
     rw[Option.map_eq_some_iff] at h
     obtain⟨ns,hns,rfl⟩:=h
     obtain⟨h1,h2⟩:=lS hns
     refine⟨{ H with ins:=h2 },?_⟩
     have:=rowl qx hw h1
     unfold hl;simp only;omega
   split at h
   · rename_i hw
     rw[Option.map_eq_some_iff] at h
     obtain⟨ns,hns,rfl⟩:=h
     obtain⟨h1,h2⟩:=lS hns
     refine⟨{ H with draws:=h2 },?_⟩
     have:=rowl eG hw h1
     unfold hl;simp only;omega
   split at h
   · rename_i hw
     rw[Option.map_eq_some_iff] at h
     obtain⟨ns,hns,rfl⟩:=h
     obtain⟨h1,h2⟩:=lS hns
     refine⟨{ H with evict:=h2 },?_⟩
     have:=rowl dP hw h1
     unfold hl;simp only;omega
   split at h
   · rename_i a
     split at h
     · cases h
     · rename_i hn
       obtain⟨h1,h2⟩:=zI hn
       have rl:∀ w',w=w'→(row w' [numOf a]).length=l.length:=fun w' e=>rowl w' e (by rw[List.map_cons,h2];rfl)
       unfold single at h
       split at h
       · rename_i hw;cases h;refine⟨{ H with fuel:=h1 },?_⟩;have:=rl _ hw;unfold hl;simp only;omega
       split at h
       · rename_i hw;cases h;refine⟨{ H with heap:=h1 },?_⟩;have:=rl _ hw;unfold hl;simp only;omega
       split at h
       · rename_i hw;cases h;refine⟨{ H with stack:=h1 },?_⟩;have:=rl _ hw;unfold hl;simp only;omega
       split at h
       · rename_i hw;cases h;refine⟨{ H with every:=h1 },?_⟩;have:=rl _ hw;unfold hl;simp only;omega
       split at h
       · rename_i hw;cases h;refine⟨{ H with keep:=h1 },?_⟩;have:=rl _ hw;unfold hl;simp only;omega
       split at h
       · rename_i hw;cases h;refine⟨{ H with hot:=h1 },?_⟩;have:=rl _ hw;unfold hl;simp only;omega
       split at h
       · rename_i hw
         cases h
         have hok:wH nm (numOf a,0,3) []:=⟨h1,rfl,.inr ⟨rfl,rfl⟩⟩
         obtain⟨g1,g2⟩:=oQ H.acts hok
         refine⟨{ H with acts:=g1 },?_⟩
         have:=rl _ hw
         have e:gY (numOf a,0,3) []=row oh [numOf a]:=by unfold gY;rw[if_neg (show ¬ (3:Int)=1 by decide),if_neg (show ¬ (3:Int)=2 by decide)]
         unfold hl;simp only
         rw[g2,dB,bH,e]
         have z:(dG ([]:List (List UInt8))).length=0:=rfl
         omega
       · cases h
   · rename_i a b
     split at h
     · cases h
     · rename_i hn
       obtain⟨h1,h2⟩:=zI hn
       rw[bH,bH,bH] at hsl
       have hsl:w.length+1+(a.length+1+(b.length+1+0))=l.length+1:=hsl
       unfold named at h
       split at h
       · cases h
       rename_i hnm
       have hnm:nm b=true:=by simpa using hnm
       split at h
       · rename_i hw
         cases h
         obtain⟨g1,g2⟩:=oQ H.acts (a:=(numOf a,0,1)) (n:=b) ⟨h1,rfl,.inl ⟨.inl rfl,hnm⟩⟩
         refine⟨{ H with acts:=g1 },?_⟩
         have e:gY (numOf a,0,1) b=Pi++32::(a++32::b):=by unfold gY;rw[if_pos rfl,h2]
         unfold hl;simp only
         rw[g2,dB,bH,e]
         have:(Pi++32::(a++32::b)).length=Pi.length+1+a.length+1+b.length:=by simp;omega
         rw[hw] at hsl
         have z:(dG ([]:List (List UInt8))).length=0:=rfl
         omega
       split at h
       · rename_i hw
         cases h
         obtain⟨g1,g2⟩:=oQ H.acts (a:=(numOf a,0,2)) (n:=b) ⟨h1,rfl,.inl ⟨.inr rfl,hnm⟩⟩
         refine⟨{ H with acts:=g1 },?_⟩
         have e:gY (numOf a,0,2) b=lC++32::(a++32::b):=by unfold gY;rw[if_neg (show ¬ (2:Int)=1 by decide),if_pos rfl,h2]
         unfold hl;simp only
         rw[g2,dB,bH,e]
         have:(lC++32::(a++32::b)).length=lC.length+1+a.length+1+b.length:=by simp;omega
         rw[hw] at hsl
         have z:(dG ([]:List (List UInt8))).length=0:=rfl
         omega
       · cases h
   · cases h
theorem CJ:∀ {l:List (List UInt8)} {x y:gu} {i:Nat} {r:List (List UInt8)},eY nm x i l=.ok (y,r)→HM nm x→HM nm y∧∃ p,l=p++dE::r∧hl y≤hl x+(dG p).length
 | [],x,y,i,r,h,_=>by cases h
 | l::k,x,y,i,r,h,H=>by
   rw[eY] at h
   split at h
   · rename_i hl
     cases h
     exact⟨H,[],by rw[hl];rfl,by simp[dG]⟩
   · split at h
     · cases h
     · rename_i z hz
       obtain⟨h1,h2⟩:=Vf hz H
       obtain⟨h3,p,h4,h5⟩:=CJ h h1
       refine⟨h3,l::p,by rw[h4];rfl,?_⟩
       rw[bH];omega
theorem JI:∀ {l:List (List UInt8)} {s c:List UInt8} {t:List (List UInt8)},uo s l=some (c,t)→∃ p,l=p++fD::t∧c=s++dG p∧∀ x∈p,x≠fD
 | [],s,c,t,h=>by cases h
 | l::k,s,c,t,h=>by
   rw[uo] at h
   split at h
   · rename_i hl
     cases h
     exact⟨[],by rw[hl];rfl,by simp[dG],fun x hx=>by simp at hx⟩
   · rename_i hl
     obtain⟨p,h1,h2,h3⟩:=JI h
     refine⟨l::p,by rw[h1];rfl,by rw[h2,gq];simp,fun x hx=>?_⟩
     rcases List.mem_cons.1 hx with rfl | hx
     · exact hl
     · exact h3 x hx
theorem hm0:HM nm x0:=⟨⟨by decide,by decide⟩,⟨by decide,by decide⟩,⟨by decide,by decide⟩,⟨by decide,by decide⟩,⟨by decide,by decide⟩,⟨by decide,by decide⟩,fun n hn=>by simp[x0] at hn,fun n hn=>by simp[x0] at hn,fun n hn=>by simp[x0] at hn,.nil⟩
theorem Qw {s:List UInt8} {x:gu} (h:oq nm s=.ok x):Pn nm x∧(textS x).length≤s.length+68:=by
 unfold oq at h
 split at h
 · cases h
 split at h
 · cases h
 · rename_i y r hh
   split at h
   · cases h
   · rename_i c t hs
     split at h
     · cases h
     · rename_i hmany
       cases h
       obtain⟨H,p,hp,hlen⟩:=CJ hh hm0
       obtain⟨q,hq,hc,hne⟩:=JI hs
       rw[List.nil_append] at hc
       have hm:=uT (s:=s)
       have hq10:∀ x∈q,∀ c∈x,c≠10:=fun x hx=>hm x (by rw[hp,hq];simp[hx])
       refine⟨⟨H.fuel,H.heap,H.stack,H.every,H.keep,H.hot,H.ins,H.draws,H.evict,H.acts,?_,?_,fun l hl=>hm l (by rw[hp,hq];simp[hl]),by simp only;omega⟩,?_⟩
       · simp only
         rw[hc]
         by_cases e:q=[]
         · subst e;exact .inl rfl
         · exact .inr (Iz q e)
       · simp only
         rw[hc,Dh hq10]
         exact hne
       · have h0:hl x0=67:=by decide +kernel
         have hl1:=uS s
         rw[hp,hq] at hl1
         rw[dB,bH,dB,bH] at hl1
         unfold textS
         rw[List.length_append,List.length_append,dB,ZF,bH,bH]
         simp only
         rw[hc]
         have e:hl { y with src:=dG q,lines:=t }=hl y:=rfl
         rw[e]
         have z:(dG ([]:List (List UInt8))).length=0:=rfl
         omega
end
end Go.Proofs.YtgpanefhaiohnaaGreatDoor
namespace Go.Proofs.YtgpanefhaiohnaaGreatDoor
open Go.RowKit
def dI (n:Int):Bool:=decide (0≤n)&&decide (n≤1048576)
theorem nU (n:Int):dI n=true↔Small n:=by simp[dI,Small]
def mg (nm:List UInt8→Bool) (a:Int×Int×Int) (n:List UInt8):Bool:=
 decide (a.2.1=0)&&(dI a.1&&(decide (1≤a.2.2)&&(decide (a.2.2≤3)&&(((decide (a.2.2=1)||decide (a.2.2=2))==nm n)&&((decide (a.2.2=1)||decide (a.2.2=2))||n.isEmpty)))))
theorem Rq {nm:List UInt8→Bool} (h0:nm []=false) (a:Int×Int×Int) (n:List UInt8):mg nm a n=true↔wH nm a n:=by
 obtain⟨t,f,k⟩:=a
 unfold mg wH
 simp only[Bool.and_eq_true,decide_eq_true_eq,nU,beq_iff_eq]
 constructor
 · rintro⟨h1,h2,h3,h4,h5,h6⟩
   refine⟨h2,h1,?_⟩
   by_cases e:k=1∨k=2
   · refine .inl ⟨e,?_⟩
     rw[← h5]
     rcases e with rfl | rfl<;>rfl
   · refine .inr ⟨by omega,?_⟩
     have e1:¬ k=1:=fun h=>e (.inl h)
     have e2:¬ k=2:=fun h=>e (.inr h)
     simpa[e1,e2] using h6
 · rintro⟨h2,h1,h3⟩
   rcases h3 with ⟨rfl | rfl,hn⟩ | ⟨rfl,rfl⟩
   · exact⟨h1,h2,by decide,by decide,by rw[hn];rfl,rfl⟩
   · exact⟨h1,h2,by decide,by decide,by rw[hn];rfl,rfl⟩
   · exact⟨h1,h2,by decide,by decide,by rw[h0];rfl,rfl⟩
def jL (nm:List UInt8→Bool):List (Int×Int×Int)→List (List UInt8)→Bool
 | [],[]=>true
 | a::l,n::k=>mg nm a n&&jL nm l k
 | _,_=>false
theorem Bj {nm:List UInt8→Bool} (h0:nm []=false):∀ (l:List (Int×Int×Int)) (k:List (List UInt8)),jL nm l k=true↔kW nm l k
 | [],[]=>⟨fun _=>.nil,fun _=>rfl⟩
 | [],_::_=>⟨fun h=>(by cases h),fun h=>(by cases h)⟩
 | _::_,[]=>⟨fun h=>(by cases h),fun h=>(by cases h)⟩
 | a::l,n::k=>by
   rw[jL,Bool.and_eq_true,Rq h0,Bj h0 l k]
   exact⟨fun h=>.cons h.1 h.2,fun h=>by cases h with | cons h1 h2=>exact⟨h1,h2⟩⟩
def rf (l:List UInt8):Bool:=l.all fun c=>!(c==10)
theorem zA (l:List UInt8):rf l=true↔∀ c∈l,c≠10:=by simp[rf]
def qY (nm:List UInt8→Bool) (x:gu):Bool:=
 (dI x.fuel&&(dI x.heap&&(dI x.stack&&(dI x.every&&(dI x.keep&&dI x.hot)))))&&(jL nm x.acts x.names&&(decide (x.lines.length≤1000)&&(x.lines.all rf&&((x.src.isEmpty||decide (x.src.getLast? = some 10))&&(bC x.src).all fun l=>!decide (l=fD)))))
structure Zl (x:gu):Prop where
 ins:∀ n∈x.ins,AP n
 draws:∀ n∈x.draws,AP n
 evict:∀ n∈x.evict,AP n
theorem zh {nm:List UInt8→Bool} (h0:nm []=false) {x:gu} (h:Zl x):qY nm x=true↔Pn nm x:=by
 unfold qY
 simp only[Bool.and_eq_true,nU,Bj h0,decide_eq_true_eq,List.all_eq_true,zA,Bool.or_eq_true,List.isEmpty_iff,Bool.not_eq_true',decide_eq_false_iff_not]
 constructor
 · rintro⟨⟨a1,a2,a3,a4,a5,a6⟩,a7,a8,a9,a10,a11⟩
   exact⟨a1,a2,a3,a4,a5,a6,h.ins,h.draws,h.evict,a7,a10,a11,a9,a8⟩
 · intro M
   exact⟨⟨M.fuel,M.heap,M.stack,M.every,M.keep,M.hot⟩,M.acts,M.many,M.lines,M.src,M.noend⟩
end Go.Proofs.YtgpanefhaiohnaaGreatDoor
namespace Go.Proofs.YtgpanefhaiohnaaGreatDoor
open Go.RowKit
theorem Ar (c:UInt8):∀ (k:Nat) (s:List UInt8),s.count c≤k→Lib.splitK [c] 0 k s=aW c s
 | 0,s,h=>by
   rw[Lib.splitK,iE]
   intro x hx e
   subst e
   have:=List.count_pos_iff.2 hx
   omega
 | k+1,s,h=>by
   rw[Lib.splitK,Lib.index_one]
   by_cases e:Lib.indexByte s c=-1
   · rw[if_pos (by rw[e];rfl),iE]
     intro x hx e'
     subst e'
     obtain⟨i,hi⟩:=List.getElem?_of_mem hx
     exact Lib.indexByte_none e i hi
   · have hg:=Lib.indexByte_ge s c
     obtain⟨o,ho⟩:∃ o:Nat,Lib.indexByte s c=o:=⟨(Lib.indexByte s c).toNat,by omega⟩
     obtain⟨h1,h2⟩:=Lib.indexByte_some ho
     rw[if_neg (by rw[beq_iff_eq];exact e),ho,Int.toNat_natCast,Nat.add_zero,List.length_singleton]
     have hlt:=(List.getElem?_eq_some_iff.1 h1).1
     have hs:s=s.take o++c::s.drop (o+1):=by
      have hc:s[o]=c:=(List.getElem?_eq_some_iff.1 h1).2
      conv=>lhs;rw[← List.take_append_drop o s,List.drop_eq_getElem_cons hlt,hc]
     have hn:∀ x∈s.take o,x≠c:=by
      intro x hx e'
      subst e'
      obtain⟨i,hi⟩:=List.getElem?_of_mem hx
      rw[List.getElem?_take] at hi
      split at hi
      · rename_i hio
        exact h2 i hio hi
      · cases hi
     have hcount:(s.drop (o+1)).count c≤k:=by
      rw[hs,List.count_append,List.count_cons_self] at h
      omega
     rw[Ar c k _ hcount]
     conv=>rhs;rw[hs,fV _ hn]
theorem Nc (c:UInt8) (l:List UInt8) (k:Nat) (h:l.count c≤k):Lib.splitB (B [c]) 0 k (B l)=(aW c l).map B:=by
 have e:=Lib.splitB_data (B [c]) 0 k (B l)
 have e2:(B [c]).data.toList=[c]:=rfl
 have e3:(B l).data.toList=l:=rfl
 rw[e2,e3,Ar c k l h] at e
 rw[← e,List.map_map]
 have:(B∘fun x:ByteArray=>x.data.toList)=id:=by
  funext x
  obtain⟨a⟩:=x
  show (⟨a.toList.toArray⟩:ByteArray)=⟨a⟩
  simp
 rw[this,List.map_id]
end Go.Proofs.YtgpanefhaiohnaaGreatDoor
namespace Go.Proofs.YtgpanefhaiohnaaGreatDoor
open Go.RowKit
mutual
inductive IE where
 | x (n:Nat) | c (n:Int) | add (a b:IE) | sub (a b:IE) | mul (a b:IE) | wr (k:IntKind) (a:IE) | quo (a b:IE) | rem (a b:IE) | bits (o:BinOp) (k:IntKind) (a b:IE) | sh (o:BinOp) (k:IntKind) (a b:IE) | len (s:SE) | at (s:SE) (i:IE) | cnt (l:LE) | cap (l:LE) | ite (b:BE) (p q:IE)
 deriving DecidableEq
inductive BE where
 | x (n:Nat) | c (b:Bool) | not (a:BE) | and (a b:BE) | or (a b:BE) | imp (a b:BE) | eqI (a b:IE) | lt (a b:IE) | le (a b:IE) | eqB (a b:BE) | eqS (s t:SE) | ltS (s t:SE) | nns (l:LE) | nnp (n:Nat) | ite (b p q:BE)
 deriving DecidableEq
inductive SE where
 | x (n:Nat) | c (l:List Nat) | app (a b:SE) | sub (s:SE) (lo hi:IE) | ite (b:BE) (p q:SE)
 deriving DecidableEq
inductive LE where
 | x (n:Nat) | nil | sub (l:LE) (lo hi:IE) (sz:Nat)
 deriving DecidableEq
end
structure bg where
 a:Option (Nat×Nat)
 n:Nat
 c:Nat
def bg.val (s:bg):Value:=.slice (s.a.map fun x=>⟨x.1,x.2,none⟩) s.n s.c
structure HO where
 cs:List Value
 ty:TypeId
abbrev Hp:=Nat→Option HO
abbrev ro:TypeId:=1000003
structure Rw where
 t:TypeId
 lt:t<1000000
instance:Coe Rw TypeId:=⟨Rw.t⟩
def Hp.set (h:Hp) (b:Nat) (o:HO):Hp:=fun k=>if k=b then some o else h k
def Hp.del (h:Hp) (b:Nat):Hp:=fun k=>if k=b then none else h k
structure Ctx where
 i:List Int
 b:List Bool
 s:List (List UInt8)
 v:List Value
 l:List bg
 p:List (Option (Nat×Nat))
 h:Hp
 m:Nat→Nat
def JU (a b:Int):Bool:=decide (a<b)
def leB (a b:Int):Bool:=decide (a≤b)
theorem bG (a b:Int):(JU a b=true)=(a<b):=by simp[JU]
theorem bn (a b:Int):(leB a b=true)=(a≤b):=by simp[leB]
theorem bY (a b:Int):(JU a b=false)=(b≤a):=by simp[JU]
theorem cO (a b:Int):(leB a b=false)=(b<a):=by simp[leB]
def TM (o:BinOp) (k:IntKind) (x y:Int):Int:=
 let a:=BitVec.ofInt k.bits x
 let b:=BitVec.ofInt k.bits y
 match o with
 | .and=>k.wrap (a &&& b).toNat
 | .or=>k.wrap (a ||| b).toNat
 | .xor=>k.wrap (a ^^^ b).toNat
 | .andNot=>k.wrap (a &&& ~~~b).toNat
 | _=>0
def Lp (o:BinOp) (k:IntKind) (x y:Int):Int:=
 match o with
 | .shl=>k.wrap (x*2 ^ min y.toNat k.bits)
 | .shr=>x.fdiv (2 ^ min y.toNat k.bits)
 | _=>0
mutual
def IE.den (C:Ctx):IE→Int
 | .x n=>C.i.getD n 0
 | .c n=>n
 | .add a b=>a.den C+b.den C
 | .sub a b=>a.den C - b.den C
 | .mul a b=>a.den C*b.den C
 | .wr k a=>k.wrap (a.den C)
 | .quo a b=>(a.den C).tdiv (b.den C)
 | .rem a b=>(a.den C).tmod (b.den C)
 | .bits o k a b=>TM o k (a.den C) (b.den C)
 | .sh o k a b=>Lp o k (a.den C) (b.den C)
 | .len s=>((s.den C).length:Nat)
 | .at s i=>bt (s.den C) (i.den C).toNat
 | .cnt l=>((l.den C).n:Nat)
 | .cap l=>((l.den C).c:Nat)
 | .ite b p q=>bif b.den C then p.den C else q.den C
def BE.den (C:Ctx):BE→Bool
 | .x n=>C.b.getD n false
 | .c n=>n
 | .not a=>!a.den C
 | .and a b=>a.den C&&b.den C
 | .or a b=>a.den C||b.den C
 | .imp a b=>!a.den C||b.den C
 | .eqI a b=>a.den C==b.den C
 | .lt a b=>JU (a.den C) (b.den C)
 | .le a b=>leB (a.den C) (b.den C)
 | .eqB a b=>a.den C==b.den C
 | .eqS a b=>a.den C==b.den C
 | .ltS a b=>Op.bytesLess (a.den C) (b.den C)
 | .nns l=>(l.den C).a.isSome
 | .nnp n=>(C.p.getD n none).isSome
 | .ite b p q=>bif b.den C then p.den C else q.den C
def SE.den (C:Ctx):SE→List UInt8
 | .x n=>C.s.getD n []
 | .c n=>n.map UInt8.ofNat
 | .app a b=>a.den C++b.den C
 | .sub s lo hi=>((s.den C).take (hi.den C).toNat).drop (lo.den C).toNat
 | .ite b p q=>bif b.den C then p.den C else q.den C
def LE.den (C:Ctx):LE→bg
 | .x n=>C.l.getD n ⟨none,0,0⟩
 | .nil=>⟨none,0,0⟩
 | .sub l lo hi sz=>⟨if (l.den C).c=(lo.den C).toNat then (l.den C).a else (l.den C).a.map fun x=>(x.1,x.2+(lo.den C).toNat*sz),(hi.den C).toNat - (lo.den C).toNat,(l.den C).c - (lo.den C).toNat⟩
end
structure Cnt where
 i:Nat
 b:Nat
 s:Nat
 v:Nat
 l:Nat
 p:Nat
 deriving DecidableEq
mutual
def IE.blw (N:Cnt):IE→Bool
 | .x n=>decide (n<N.i)
 | .c _=>true
 | .add x y=>x.blw N&&y.blw N
 | .sub x y=>x.blw N&&y.blw N
 | .mul x y=>x.blw N&&y.blw N
 | .wr _ x=>x.blw N
 | .quo x y=>x.blw N&&y.blw N
 | .rem x y=>x.blw N&&y.blw N
 | .bits _ _ x y=>x.blw N&&y.blw N
 | .sh _ _ x y=>x.blw N&&y.blw N
 | .len x=>x.blw N
 | .at x y=>x.blw N&&y.blw N
 | .cnt l=>l.blw N
 | .cap l=>l.blw N
 | .ite x y z=>x.blw N&&y.blw N&&z.blw N
def BE.blw (N:Cnt):BE→Bool
 | .x n=>decide (n<N.b)
 | .c _=>true
 | .not x=>x.blw N
 | .and x y=>x.blw N&&y.blw N
 | .or x y=>x.blw N&&y.blw N
 | .imp x y=>x.blw N&&y.blw N
 | .eqI x y=>x.blw N&&y.blw N
 | .lt x y=>x.blw N&&y.blw N
 | .le x y=>x.blw N&&y.blw N
 | .eqB x y=>x.blw N&&y.blw N
 | .eqS x y=>x.blw N&&y.blw N
 | .ltS x y=>x.blw N&&y.blw N
 | .nns l=>l.blw N
 | .nnp n=>decide (n<N.p)
 | .ite x y z=>x.blw N&&y.blw N&&z.blw N
def SE.blw (N:Cnt):SE→Bool
 | .x n=>decide (n<N.s)
 | .c _=>true
 | .app x y=>x.blw N&&y.blw N
 | .sub x y z=>x.blw N&&y.blw N&&z.blw N
 | .ite x y z=>x.blw N&&y.blw N&&z.blw N
def LE.blw (N:Cnt):LE→Bool
 | .x n=>decide (n<N.l)
 | .nil=>true
 | .sub x y z _=>x.blw N&&y.blw N&&z.blw N
end
structure Ea (N:Cnt) (C D:Ctx):Prop where
 i:∀ n,n<N.i→C.i.getD n 0=D.i.getD n 0
 b:∀ n,n<N.b→C.b.getD n false=D.b.getD n false
 s:∀ n,n<N.s→C.s.getD n []=D.s.getD n []
 v:∀ n,n<N.v→C.v.getD n undef=D.v.getD n undef
 l:∀ n,n<N.l→C.l.getD n ⟨none,0,0⟩=D.l.getD n ⟨none,0,0⟩
 p:∀ n,n<N.p→C.p.getD n none=D.p.getD n none
mutual
theorem IE.aG {N:Cnt} {C D:Ctx} (h:Ea N C D):∀ e:IE,e.blw N=true→e.den C=e.den D
 | .x n,hb=>h.i n (by simpa[IE.blw] using hb)
 | .c _,_=>rfl
 | .add x y,hb=>by simp only[IE.blw,Bool.and_eq_true] at hb;simp only[IE.den,IE.aG h x hb.1,IE.aG h y hb.2]
 | .sub x y,hb=>by simp only[IE.blw,Bool.and_eq_true] at hb;simp only[IE.den,IE.aG h x hb.1,IE.aG h y hb.2]
 | .mul x y,hb=>by simp only[IE.blw,Bool.and_eq_true] at hb;simp only[IE.den,IE.aG h x hb.1,IE.aG h y hb.2]
 | .wr _ x,hb=>by simp only[IE.den,IE.aG h x (by simpa[IE.blw] using hb)]
 | .quo x y,hb=>by simp only[IE.blw,Bool.and_eq_true] at hb;simp only[IE.den,IE.aG h x hb.1,IE.aG h y hb.2]
 | .rem x y,hb=>by simp only[IE.blw,Bool.and_eq_true] at hb;simp only[IE.den,IE.aG h x hb.1,IE.aG h y hb.2]
 | .bits _ _ x y,hb=>by simp only[IE.blw,Bool.and_eq_true] at hb;simp only[IE.den,IE.aG h x hb.1,IE.aG h y hb.2]
 | .sh _ _ x y,hb=>by simp only[IE.blw,Bool.and_eq_true] at hb;simp only[IE.den,IE.aG h x hb.1,IE.aG h y hb.2]
 | .len x,hb=>by simp only[IE.den,SE.aG h x (by simpa[IE.blw] using hb)]
 | .at x y,hb=>by simp only[IE.blw,Bool.and_eq_true] at hb;simp only[IE.den,SE.aG h x hb.1,IE.aG h y hb.2]
 | .cnt l,hb=>by simp only[IE.den,LE.aG h l (by simpa[IE.blw] using hb)]
 | .cap l,hb=>by simp only[IE.den,LE.aG h l (by simpa[IE.blw] using hb)]
 | .ite x y z,hb=>by simp only[IE.blw,Bool.and_eq_true] at hb;simp only[IE.den,BE.aG h x hb.1.1,IE.aG h y hb.1.2,IE.aG h z hb.2]
theorem BE.aG {N:Cnt} {C D:Ctx} (h:Ea N C D):∀ e:BE,e.blw N=true→e.den C=e.den D
 | .x n,hb=>h.b n (by simpa[BE.blw] using hb)
 | .c _,_=>rfl
 | .not x,hb=>by simp only[BE.den,BE.aG h x (by simpa[BE.blw] using hb)]
 | .and x y,hb=>by simp only[BE.blw,Bool.and_eq_true] at hb;simp only[BE.den,BE.aG h x hb.1,BE.aG h y hb.2]
 | .or x y,hb=>by simp only[BE.blw,Bool.and_eq_true] at hb;simp only[BE.den,BE.aG h x hb.1,BE.aG h y hb.2]
 | .imp x y,hb=>by simp only[BE.blw,Bool.and_eq_true] at hb;simp only[BE.den,BE.aG h x hb.1,BE.aG h y hb.2]
 | .eqI x y,hb=>by simp only[BE.blw,Bool.and_eq_true] at hb;simp only[BE.den,IE.aG h x hb.1,IE.aG h y hb.2]
 | .lt x y,hb=>by simp only[BE.blw,Bool.and_eq_true] at hb;simp only[BE.den,IE.aG h x hb.1,IE.aG h y hb.2]
 | .le x y,hb=>by simp only[BE.blw,Bool.and_eq_true] at hb;simp only[BE.den,IE.aG h x hb.1,IE.aG h y hb.2]
 | .eqB x y,hb=>by simp only[BE.blw,Bool.and_eq_true] at hb;simp only[BE.den,BE.aG h x hb.1,BE.aG h y hb.2]
 | .eqS x y,hb=>by simp only[BE.blw,Bool.and_eq_true] at hb;simp only[BE.den,SE.aG h x hb.1,SE.aG h y hb.2]
 | .ltS x y,hb=>by simp only[BE.blw,Bool.and_eq_true] at hb;simp only[BE.den,SE.aG h x hb.1,SE.aG h y hb.2]
 | .nns l,hb=>by simp only[BE.den,LE.aG h l (by simpa[BE.blw] using hb)]
 | .nnp n,hb=>by simp only[BE.den,h.p n (by simpa[BE.blw] using hb)]
 | .ite x y z,hb=>by simp only[BE.blw,Bool.and_eq_true] at hb;simp only[BE.den,BE.aG h x hb.1.1,BE.aG h y hb.1.2,BE.aG h z hb.2]
theorem SE.aG {N:Cnt} {C D:Ctx} (h:Ea N C D):∀ e:SE,e.blw N=true→e.den C=e.den D
 | .x n,hb=>h.s n (by simpa[SE.blw] using hb)
 | .c _,_=>rfl
 | .app x y,hb=>by simp only[SE.blw,Bool.and_eq_true] at hb;simp only[SE.den,SE.aG h x hb.1,SE.aG h y hb.2]
 | .sub x y z,hb=>by simp only[SE.blw,Bool.and_eq_true] at hb;simp only[SE.den,SE.aG h x hb.1.1,IE.aG h y hb.1.2,IE.aG h z hb.2]
 | .ite x y z,hb=>by simp only[SE.blw,Bool.and_eq_true] at hb;simp only[SE.den,BE.aG h x hb.1.1,SE.aG h y hb.1.2,SE.aG h z hb.2]
theorem LE.aG {N:Cnt} {C D:Ctx} (h:Ea N C D):∀ e:LE,e.blw N=true→e.den C=e.den D
 | .x n,hb=>h.l n (by simpa[LE.blw] using hb)
 | .nil,_=>rfl
 | .sub x y z _,hb=>by simp only[LE.blw,Bool.and_eq_true] at hb;simp only[LE.den,LE.aG h x hb.1.1,IE.aG h y hb.1.2,IE.aG h z hb.2]
end
inductive AE where
 | pt (n off:Nat) | el (l:LE) (i:IE) (sz off:Nat) | ix (n:Nat) (i:IE) (sz off:Nat)
 deriving DecidableEq
def AE.den (C:Ctx):AE→Option (Nat×Nat)
 | .pt n off=>(C.p.getD n none).map fun x=>(x.1,x.2+off)
 | .el l i sz off=>(l.den C).a.map fun x=>(x.1,x.2+(i.den C).toNat*sz+off)
 | .ix n i sz off=>(C.p.getD n none).map fun x=>(x.1,x.2+(i.den C).toNat*sz+off)
def AE.blw (N:Cnt):AE→Bool
 | .pt n _=>decide (n<N.p)
 | .el l i _ _=>l.blw N&&i.blw N
 | .ix n i _ _=>decide (n<N.p)&&i.blw N
theorem AE.aG {N:Cnt} {C D:Ctx} (h:Ea N C D):∀ e:AE,e.blw N=true→e.den C=e.den D
 | .pt n _,hb=>by simp only[AE.den,h.p n (by simpa[AE.blw] using hb)]
 | .el l i _ _,hb=>by simp only[AE.blw,Bool.and_eq_true] at hb;simp only[AE.den,LE.aG h l hb.1,IE.aG h i hb.2]
 | .ix n i _ _,hb=>by simp only[AE.blw,Bool.and_eq_true,decide_eq_true_eq] at hb;simp only[AE.den,h.p n hb.1,IE.aG h i hb.2]
def kL:Option (Nat×Nat)→Value
 | some x=>.pointer (some ⟨x.1,x.2,none⟩)
 | none=>undef
inductive KV where
 | undef | nilp | nilm | niliface | nilf | fn (f:Nat) | gl (g:Nat)
 deriving DecidableEq
def KV.val:KV→Value
 | .undef=>Go.undef
 | .nilp=>.pointer none
 | .nilm=>.map none
 | .niliface=>.nilIface
 | .nilf=>.nilFunc
 | .fn f=>.func (.func f) #[] #[]
 | .gl g=>.pointer (some ⟨g,0,none⟩)
inductive CE where
 | i (k:IntKind) (e:IE) | b (e:BE) | s (e:SE) | own (k o:Nat) | osl (k n:Nat) | v (n:Nat) | c (x:KV) | sl (l:LE) | pt (n:Nat) | adr (a:AE) | clo (f:Nat) (l:List Nat)
 deriving DecidableEq
def CE.den (C:Ctx) (ρ:Nat→Nat):CE→Value
 | .i k e=>.int k (e.den C)
 | .b e=>.bool (e.den C)
 | .s e=>.string (B (e.den C))
 | .own k o=>.pointer (some ⟨ρ k,o,none⟩)
 | .osl k n=>.slice (some ⟨ρ k,0,none⟩) n n
 | .v n=>C.v.getD n undef
 | .c x=>x.val
 | .sl l=>(l.den C).val
 | .pt n=>.pointer ((C.p.getD n none).map fun x=>⟨x.1,x.2,none⟩)
 | .adr a=>kL (a.den C)
 | .clo f l=>.func (.func f) #[] (l.map fun n=>Value.pointer ((C.p.getD n none).map fun x=>⟨x.1,x.2,none⟩)).toArray
def CE.blw (N:Cnt):CE→Bool
 | .i _ e=>e.blw N
 | .b e=>e.blw N
 | .s e=>e.blw N
 | .own _ _=>true
 | .osl _ _=>true
 | .v n=>decide (n<N.v)
 | .c _=>true
 | .sl l=>l.blw N
 | .pt n=>decide (n<N.p)
 | .adr a=>a.blw N
 | .clo _ l=>l.all fun n=>decide (n<N.p)
def CE.plain:CE→Bool
 | .own _ _=>false
 | .osl _ _=>false
 | _=>true
theorem CE.aG {N:Cnt} {C D:Ctx} (h:Ea N C D) (ρ:Nat→Nat):∀ e:CE,e.blw N=true→e.den C ρ=e.den D ρ
 | .i _ e,hb=>by simp only[CE.den,e.aG h hb]
 | .b e,hb=>by simp only[CE.den,e.aG h hb]
 | .s e,hb=>by simp only[CE.den,e.aG h hb]
 | .own _ _,_=>rfl
 | .osl _ _,_=>rfl
 | .v n,hb=>h.v n (by simpa[CE.blw] using hb)
 | .c _,_=>rfl
 | .sl l,hb=>by simp only[CE.den,l.aG h hb]
 | .pt n,hb=>by simp only[CE.den,h.p n (by simpa[CE.blw] using hb)]
 | .adr a,hb=>by simp only[CE.den,a.aG h hb]
 | .clo f l,hb=>by
   simp only[CE.den]
   rw[List.map_congr_left fun n hn=>?_]
   rw[h.p n (by simpa[CE.blw] using List.all_eq_true.1 hb n hn)]
theorem CE.eF {C:Ctx} {ρ σ:Nat→Nat}:∀ e:CE,e.plain=true→e.den C ρ=e.den C σ
 | .i _ _,_=>rfl
 | .b _,_=>rfl
 | .s _,_=>rfl
 | .own _ _,h=>by cases h
 | .osl _ _,h=>by cases h
 | .v _,_=>rfl
 | .c _,_=>rfl
 | .sl _,_=>rfl
 | .pt _,_=>rfl
 | .adr _,_=>rfl
 | .clo _ _,_=>rfl
inductive PE where
 | one (c:CE) | agg (l:List CE)
 deriving DecidableEq
def PE.den (C:Ctx) (ρ:Nat→Nat):PE→Value
 | .one c=>c.den C ρ
 | .agg l=>.agg (l.map (CE.den C ρ)).toArray
def PE.cells:PE→List CE
 | .one c=>[c]
 | .agg l=>l
def PE.blw (N:Cnt) (p:PE):Bool:=p.cells.all (CE.blw N)
def PE.plain (p:PE):Bool:=p.cells.all CE.plain
theorem jb {N:Cnt} {C D:Ctx} (h:Ea N C D) (ρ:Nat→Nat) (l:List CE) (hb:l.all (CE.blw N)=true):l.map (CE.den C ρ)=l.map (CE.den D ρ):=
 List.map_congr_left fun e he=>e.aG h ρ (List.all_eq_true.1 hb e he)
theorem qI {C:Ctx} {ρ σ:Nat→Nat} (l:List CE) (hb:l.all CE.plain=true):l.map (CE.den C ρ)=l.map (CE.den C σ):=
 List.map_congr_left fun e he=>e.eF (List.all_eq_true.1 hb e he)
theorem PE.aG {N:Cnt} {C D:Ctx} (h:Ea N C D) (ρ:Nat→Nat):∀ e:PE,e.blw N=true→e.den C ρ=e.den D ρ
 | .one c,hb=>c.aG h ρ (by simpa[PE.blw,PE.cells] using hb)
 | .agg l,hb=>by simp only[PE.den,jb h ρ l hb]
theorem PE.eF {C:Ctx} {ρ σ:Nat→Nat}:∀ e:PE,e.plain=true→e.den C ρ=e.den C σ
 | .one c,hb=>c.eF (by simpa[PE.plain,PE.cells] using hb)
 | .agg l,hb=>by simp only[PE.den,qI (σ:=σ) l hb]
inductive VE where
 | dead | p (x:PE) | tup (l:List PE) | wg (gs:List (Nat×Bool)) (x:PE)
 deriving DecidableEq
def VE.den (C:Ctx) (ρ:Nat→Nat):VE→Value
 | .p x=>x.den C ρ
 | .tup l=>.tuple (l.map (PE.den C ρ)).toArray
 | _=>undef
def VE.holds (C:Ctx) (ρ:Nat→Nat) (t:Array Value) (u:Value):VE→Prop
 | .dead=>True
 | .p x=>u=x.den C ρ
 | .tup l=>u=.tuple (l.map (PE.den C ρ)).toArray
 | .wg gs x=>((∀ g∈gs,t.getD g.1 undef=.bool g.2)→u=x.den C ρ)∧(¬ (∀ g∈gs,t.getD g.1 undef=.bool g.2)→u=undef)
def VE.blw (N:Cnt):VE→Bool
 | .dead=>true
 | .p x=>x.blw N
 | .tup l=>l.all (PE.blw N)
 | .wg _ x=>x.blw N
def VE.plain:VE→Bool
 | .dead=>true
 | .p x=>x.plain
 | .tup l=>l.all PE.plain
 | .wg _ x=>x.plain
theorem VE.pU {N:Cnt} {C D:Ctx} (h:Ea N C D) (ρ:Nat→Nat) (t:Array Value) (u:Value):∀ e:VE,e.blw N=true→e.holds C ρ t u→e.holds D ρ t u
 | .dead,_,_=>trivial
 | .p x,hb,hh=>by rw[VE.holds,← x.aG h ρ hb];exact hh
 | .tup l,hb,hh=>by
   have:l.map (PE.den C ρ)=l.map (PE.den D ρ):=List.map_congr_left fun e he=>e.aG h ρ (List.all_eq_true.1 hb e he)
   rw[VE.holds,← this];exact hh
 | .wg gs x,hb,hh=>⟨fun hg=>by rw[← x.aG h ρ hb];exact hh.1 hg,hh.2⟩
structure ou where
 cells:List CE
 ty:TypeId
 deriving DecidableEq
structure St where
 t:List VE
 m:List ou
 n:Cnt
def St.blw (s:St):Bool:=s.t.all (VE.blw s.n)&&s.m.all fun b=>b.cells.all (CE.blw s.n)
structure dw where
 i:List IE
 b:List BE
 s:List SE
 v:List CE
 l:List LE
 p:List CE
inductive Fm where
 | tt | ff
 | need (g c:BE) (k:Fm)
 | ite (b:BE) (t e:Fm)
 | call (g:BE) (m:Bool) (f:FuncId) (args:List PE) (r:VE) (d:Cnt) (k:Fm)
 | callK (g:BE) (ks:List (BE×AE×Nat)) (f:FuncId) (args:List PE) (r:VE) (d:Cnt) (k:Fm)
 | load (g:BE) (a:AE) (n:Nat) (r:List CE) (d:Cnt) (k:Fm)
 | store (a:AE) (cs:List CE) (k:Fm)
 | mk (cs:List CE) (ty:TypeId) (len:Nat) (k:Fm)
 | Ye (n:IE) (z:CE) (ty:TypeId) (k:Fm)
 | str (l:LE) (k:Fm)
 | new (cs:List CE) (ty:TypeId) (k:Fm)
 | app (s y:LE) (sz bytes:Nat) (ty:TypeId) (k:Fm)
 | aps (s:LE) (y:SE) (ty:TypeId) (k:Fm)
 | ret (r:VE)
 | loop (o:Nat) (g:dw) (k:Fm)
 | again (o:Nat) (n0 n1:Cnt) (g:dw)
abbrev z6:Cnt:=⟨0,0,0,0,0,0⟩
abbrev Fm.C (f:FuncId) (a:List PE) (r:VE) (d:Cnt) (k:Fm):Fm:=.call (.c true) false f a r d k
abbrev Fm.V (f:FuncId) (a:List PE) (k:Fm):Fm:=.call (.c true) false f a (.tup []) ⟨0,0,0,0,0,0⟩ k
abbrev Fm.N (c:BE) (k:Fm):Fm:=.need (.c true) c k
abbrev Fm.Z (n:Nat) (k:Fm):Fm:=.need (.c true) (.nnp n) k
abbrev Fm.O (a:AE) (n:Nat) (r:List CE) (d:Cnt) (k:Fm):Fm:=.load (.c true) a n r d k
abbrev Fm.E:Fm:=.ret (.tup [])
abbrev CE.J (n:Nat):CE:=.i .i64 (.x n)
abbrev CE.U (n:Nat):CE:=.i .u8 (.x n)
abbrev PE.J (n:Nat):PE:=.one (.i .i64 (.x n))
abbrev PE.I (e:IE):PE:=.one (.i .i64 e)
abbrev PE.P (n:Nat):PE:=.one (.pt n)
abbrev PE.L (n:Nat):PE:=.one (.sl (.x n))
abbrev PE.S (n:Nat):PE:=.one (.s (.x n))
abbrev PE.W (l:List Nat):PE:=.one (.s (.c l))
abbrev PE.B (n:Nat):PE:=.one (.b (.x n))
abbrev PE.K (a b c d e:Nat):PE:=.agg [.i .u8 (.x a),.i .i64 (.x b),.i .i64 (.x c),.i .i64 (.x d),.s (.x e)]
abbrev BE.R (e:IE):BE:=.and (.le (.c (-9223372036854775808)) e) (.le e (.c 9223372036854775807))
abbrev BE.X (i:IE) (l:LE):BE:=.and (.and (.le (.c 0) i) (.lt i (.cnt l))) (.nns l)
structure Env where
 spec:FuncId→List Value→Hp→(Value→Hp→Prop)→Prop
 post:Value→Hp→Prop
 inv:Nat→Ctx→Prop
 meas:Nat→Ctx→Nat
def iY {α:Type}:Nat→(List α→Prop)→Prop
 | 0,φ=>φ []
 | n+1,φ=>∃ x,iY n fun l=>φ (x::l)
def allL {α:Type}:Nat→(List α→Prop)→Prop
 | 0,φ=>φ []
 | n+1,φ=>∀ x,allL n fun l=>φ (x::l)
theorem Wp {α:Type} (n:Nat):∀ φ:List α→Prop,iY n φ↔∃ l,l.length=n∧φ l:=by
 induction n with
 | zero=>intro φ;simp only[iY];exact⟨fun h=>⟨[],rfl,h⟩,fun ⟨l,h,hφ⟩=>by rw[List.length_eq_zero_iff] at h;rwa [h] at hφ⟩
 | succ n ih=>
   intro φ
   simp only[iY,ih]
   constructor
   · rintro⟨x,l,h,hφ⟩;exact⟨x::l,by simp[h],hφ⟩
   · rintro⟨l,h,hφ⟩
     cases l with
     | nil=>simp at h
     | cons x l=>exact⟨x,l,by simpa using h,hφ⟩
theorem RF {α:Type} (n:Nat):∀ φ:List α→Prop,allL n φ↔∀ l,l.length=n→φ l:=by
 induction n with
 | zero=>intro φ;simp only[allL];exact⟨fun h l hl=>by rw[List.length_eq_zero_iff] at hl;rwa [hl],fun h=>h [] rfl⟩
 | succ n ih=>
   intro φ
   simp only[allL,ih]
   constructor
   · intro h l hl
     cases l with
     | nil=>simp at hl
     | cons x l=>exact h x l (by simpa using hl)
   · intro h x l hl;exact h (x::l) (by simp[hl])
structure Inc where
 i:List Int
 b:List Bool
 s:List (List UInt8)
 v:List Value
 l:List bg
 p:List (Option (Nat×Nat))
def Inc.cnt (x:Inc):Cnt:=⟨x.i.length,x.b.length,x.s.length,x.v.length,x.l.length,x.p.length⟩
def Ctx.push (C:Ctx) (x:Inc):Ctx:=⟨C.i++x.i,C.b++x.b,C.s++x.s,C.v++x.v,C.l++x.l,C.p++x.p,C.h,C.m⟩
def Ctx.cut (C:Ctx) (n:Cnt):Ctx:=⟨C.i.take n.i,C.b.take n.b,C.s.take n.s,C.v.take n.v,C.l.take n.l,C.p.take n.p,C.h,C.m⟩
def Ctx.heap (C:Ctx) (h:Hp):Ctx:=⟨C.i,C.b,C.s,C.v,C.l,C.p,h,C.m⟩
def dY:Nat→Nat:=fun _=>0
def Ctx.bare (C:Ctx):Ctx:=⟨C.i,C.b,C.s,C.v,C.l,C.p,C.h,dY⟩
def Ctx.mark (C:Ctx) (o n:Nat):Ctx:=⟨C.i,C.b,C.s,C.v,C.l,C.p,C.h,fun k=>if k=o then n else C.m k⟩
def dZ (vs:List Value):Prop:=∀ u∈vs,u.oneCell'=true
def iM (d:Cnt) (φ:Inc→Prop):Prop:=iY d.i fun i=>iY d.b fun b=>iY d.s fun s=>iY d.v fun v=>iY d.l fun l=>iY d.p fun p=>dZ v∧φ ⟨i,b,s,v,l,p⟩
def dU (d:Cnt) (φ:Inc→Prop):Prop:=allL d.i fun i=>allL d.b fun b=>allL d.s fun s=>allL d.v fun v=>allL d.l fun l=>allL d.p fun p=>dZ v→φ ⟨i,b,s,v,l,p⟩
theorem ah (d:Cnt) (φ:Inc→Prop):iM d φ↔∃ x:Inc,x.cnt=d∧dZ x.v∧φ x:=by
 unfold iM
 simp only[Wp]
 constructor
 · rintro⟨i,hi,b,hb,s,hs,v,hv,l,hl,p,hp,ho,h⟩
   exact⟨⟨i,b,s,v,l,p⟩,by simp[Inc.cnt,hi,hb,hs,hv,hl,hp],ho,h⟩
 · rintro⟨⟨i,b,s,v,l,p⟩,rfl,ho,h⟩
   exact⟨i,rfl,b,rfl,s,rfl,v,rfl,l,rfl,p,rfl,ho,h⟩
theorem xP (d:Cnt) (φ:Inc→Prop):dU d φ↔∀ x:Inc,x.cnt=d→dZ x.v→φ x:=by
 unfold dU
 simp only[RF]
 constructor
 · rintro h ⟨i,b,s,v,l,p⟩ rfl ho
   exact h i rfl b rfl s rfl v rfl l rfl p rfl ho
 · rintro h i hi b hb s hs v hv l hl p hp ho
   exact h ⟨i,b,s,v,l,p⟩ (by simp[Inc.cnt,hi,hb,hs,hv,hl,hp]) ho
def Inc.blank (d:Cnt):Inc:=⟨List.replicate d.i 0,List.replicate d.b false,List.replicate d.s [],List.replicate d.v (.pointer none),List.replicate d.l ⟨none,0,0⟩,List.replicate d.p none⟩
def aP:Nat→Nat:=fun _=>0
def LP:Hp:=fun _=>none
def qM:Value→Option (Nat×Nat)
 | .pointer (some a)=>some (a.block,a.off)
 | _=>none
def dw.den (g:dw) (C:Ctx):Inc:=⟨g.i.map (IE.den C),g.b.map (BE.den C),g.s.map (SE.den C),g.v.map (CE.den C aP),g.l.map (LE.den C),g.p.map fun c=>qM (c.den C aP)⟩
def dw.cnt (g:dw):Cnt:=⟨g.i.length,g.b.length,g.s.length,g.v.length,g.l.length,g.p.length⟩
def hread (h:Hp) (a:Option (Nat×Nat)) (n:Nat):Option (List Value):=
 match a with
 | some x=>match h x.1 with
   | some o=>if x.2+n≤o.cs.length then some ((o.cs.drop x.2).take n) else none
   | none=>none
 | none=>none
def jk (h:Hp) (a:Option (Nat×Nat)) (cs:List Value):Option Hp:=
 match a with
 | some x=>match h x.1 with
   | some o=>if x.2+cs.length≤o.cs.length∧o.ty<1000000 then some (h.set x.1 ⟨o.cs.take x.2++cs++o.cs.drop (x.2+cs.length),o.ty⟩) else none
   | none=>none
 | none=>none
def dm (h k:Hp):Prop:=∀ b o,h b=some o→k b=some o
def bJ (h:Hp) (s:bg) (xs:List Value) (ty:TypeId) (sz:Nat):Prop:=
 (s=⟨none,0,0⟩∧xs=[])∨∃ b o,s.a=some (b,0)∧h b=some o∧o.ty=ty∧o.cs.length=s.c*sz∧s.n≤s.c∧s.c≤maxLen∧xs=o.cs.take (s.n*sz)
def XN (h:Hp) (s:bg) (ys:List Value) (sz:Nat):Prop:=(s.n=0∧ys=[])∨(s.a≠none∧hread h s.a (s.n*sz)=some ys)
def BytesAt (h:Hp) (s:bg) (bs:List UInt8):Prop:=(s.a=none∧bs=[])∨hread h s.a s.n=some (bs.map fun c=>.int .u8 c.toNat)
def Fm.says (E:Env):Fm→Ctx→Prop
 | .tt,_=>True
 | .ff,_=>False
 | .need g c k,C=>(g.den C=true→c.den C=true)∧k.says E C
 | .ite b t e,C=>(b.den C=true→t.says E C)∧(b.den C=false→e.says E C)
 | .call g m f args r d k,C=>(g.den C=true→E.spec f (args.map (PE.den C aP)) C.h fun v h=>(m=true→dm C.h h)∧iM d fun x=>v=r.den (C.push x) aP∧k.says E ((C.push x).heap h))∧(g.den C=false→k.says E (C.push (Inc.blank d)))
 | .callK g ks f args r d k,C=>(g.den C=true→E.spec f (args.map (PE.den C aP)) C.h fun v h=>(∀ x∈ks,x.1.den C=true→hread h (x.2.1.den C) x.2.2=hread C.h (x.2.1.den C) x.2.2)∧iM d fun x=>v=r.den (C.push x) aP∧k.says E ((C.push x).heap h))∧(g.den C=false→k.says E (C.push (Inc.blank d)))
 | .load g a n r d k,C=>(g.den C=true→iM d fun x=>hread C.h (a.den C) n=some (r.map (CE.den (C.push x) aP))∧k.says E (C.push x))∧(g.den C=false→k.says E (C.push (Inc.blank d)))
 | .store a cs k,C=>∃ h,jk C.h (a.den C) (cs.map (CE.den C aP))=some h∧k.says E (C.heap h)
 | .mk cs ty len k,C=>∀ b,C.h b=none→k.says E ((C.push ⟨[],[],[],[],[⟨some (b,0),len,len⟩],[]⟩).heap (C.h.set b ⟨cs.map (CE.den C aP),ty⟩))
 | .Ye n z ty k,C=>0≤n.den C∧n.den C≤16777216∧∀ b,C.h b=none→k.says E ((C.push ⟨[],[],[],[],[⟨some (b,0),(n.den C).toNat,(n.den C).toNat⟩],[]⟩).heap (C.h.set b ⟨List.replicate (n.den C).toNat (z.den C aP),ty⟩))
 | .str l k,C=>∃ bs,BytesAt C.h (l.den C) bs∧k.says E (C.push ⟨[],[],[bs],[],[],[]⟩)
 | .new cs ty k,C=>∀ b,C.h b=none→k.says E ((C.push ⟨[],[],[],[],[],[some (b,0)]⟩).heap (C.h.set b ⟨cs.map (CE.den C aP),ty⟩))
 | .app s y sz bytes ty k,C=>∃ xs ys,bJ C.h (s.den C) xs ty sz∧XN C.h (y.den C) ys sz∧dZ ys∧(s.den C).n+(y.den C).n≤maxLen∧((s.den C).n+(y.den C).n)*bytes≤140737488355328∧
   ∀ s' h,bJ h s' (xs++ys) ty sz→s'.n=(s.den C).n+(y.den C).n→(∀ x,s'.a=some x→(∃ z,(s.den C).a=some z∧z.1=x.1)∨C.h x.1=none)→(∀ b o,(∀ x,(s.den C).a=some x→x.1≠b)→C.h b=some o→h b=some o)→k.says E ((C.push ⟨[],[],[],[],[s'],[]⟩).heap h)
 | .aps s y ty k,C=>∃ xs,bJ C.h (s.den C) xs ty 1∧(s.den C).n+(y.den C).length≤2000000000000∧
   ∀ s' h,bJ h s' (xs++(y.den C).map fun c=>Value.int .u8 c.toNat) ty 1→s'.n=(s.den C).n+(y.den C).length→(∀ x,s'.a=some x→(∃ z,(s.den C).a=some z∧z.1=x.1)∨C.h x.1=none)→(∀ b o,(∀ x,(s.den C).a=some x→x.1≠b)→C.h b=some o→h b=some o)→k.says E ((C.push ⟨[],[],[],[],[s'],[]⟩).heap h)
 | .ret r,C=>E.post (r.den C aP) C.h
 | .loop o g k,C=>E.inv o (C.push (g.den C)).bare∧dU g.cnt fun x=>∀ h,E.inv o ((C.push x).heap h).bare→k.says E (((C.push x).heap h).mark o (E.meas o ((C.push x).heap h).bare))
 | .again o n0 _ g,C=>E.inv o ((C.cut n0).push (g.den C)).bare∧E.meas o ((C.cut n0).push (g.den C)).bare<C.m o
end Go.Proofs.YtgpanefhaiohnaaGreatDoor
namespace Go.Proofs.YtgpanefhaiohnaaGreatDoor
open Go.RowKit
structure iy where
 nw:Bool
 esc:List Nat
def fZ (P:Program) (t:TypeId):Bool:=
 match P.underlying t with
 | some (.struct _) | some (.array _ _)=>true
 | _=>false
def jS (P:Program) (t:TypeId):Option (List Value):=((P.info? t).bind (·.zero)).map (·.cells.toList)
def bU (P:Program) (t:TypeId):Option Nat:=(P.info? t).map (·.size)
def jV (P:Program) (t:TypeId) (f:Nat):Option (Nat×TypeId):=
 match P.underlying t with
 | some (.struct fs)=>(fs[f]?).map fun x=>(x.offset,x.type)
 | _=>none
def mkNot:BE→BE
 | .c b=>.c (!b)
 | .not e=>e
 | e=>.not e
def mkAnd:BE→BE→BE
 | .c true,e=>e
 | .c false,_=>.c false
 | e,.c true=>e
 | e,f=>.and e f
def YX:BE→BE→BE
 | .c false,e=>e
 | .c true,_=>.c true
 | e,.c false=>e
 | e,f=>.or e f
def Ue (b p q:BE):BE:=
 if p=q then p else
 match p,q with
 | .c true,.c false=>b
 | .c false,.c true=>mkNot b
 | .c true,q=>YX b q
 | p,.c false=>mkAnd b p
 | p,q=>.ite b p q
def WZ (e:BE):CE→CE→Option CE
 | .i k p,.i k' q=>if k=k' then some (.i k (if p=q then p else .ite e p q)) else none
 | .b p,.b q=>some (.b (Ue e p q))
 | .s p,.s q=>some (.s (if p=q then p else .ite e p q))
 | p,q=>if p=q then some p else none
def Xa (e:BE):List CE→List CE→Option (List CE)
 | [],[]=>some []
 | p::ps,q::qs=>match WZ e p q,Xa e ps qs with
   | some x,some xs=>some (x::xs)
   | _,_=>none
 | _,_=>none
def phi (e:BE):PE→PE→Option PE
 | .one p,.one q=>(WZ e p q).map .one
 | .agg p,.agg q=>(Xa e p q).map .agg
 | _,_=>none
def AE.ok:AE→BE
 | .pt n _=>.nnp n
 | .el l _ _ _=>.nns l
 | .ix n _ _ _=>.nnp n
def AE.plus:AE→Nat→AE
 | .pt n off,d=>.pt n (off+d)
 | .el l i sz off,d=>.el l i sz (off+d)
 | .ix n i sz off,d=>.ix n i sz (off+d)
def YT:Value→Option KV
 | .pointer none=>some .nilp
 | .map none=>some .nilm
 | .nilIface=>some .niliface
 | .nilFunc=>some .nilf
 | .tuple ⟨[]⟩=>some .undef
 | _=>none
def VY:Value→Option CE
 | .int k n=>some (.i k (.c n))
 | .bool b=>some (.b (.c b))
 | .string s=>some (.s (.c (s.data.toList.map UInt8.toNat)))
 | .slice none 0 0=>some (.sl .nil)
 | v=>(YT v).map .c
def qF:List Value→Option (List CE)
 | []=>some []
 | v::vs=>match VY v,qF vs with
   | some x,some xs=>some (x::xs)
   | _,_=>none
def Y4:Value→Option PE
 | .agg cs=>(qF cs.toList).map .agg
 | v=>(VY v).map .one
abbrev Gs:=List (Nat×Bool)
def gW (st:St) (gs:Gs):Operand→Option PE
 | .tmp t=>match st.t[t]? with
   | some (.p x)=>some x
   | some (.wg hs x)=>if hs.all (gs.contains ·) then some x else none
   | _=>none
 | .const v=>Y4 v
 | .global g=>some (.one (.c (.gl g)))
 | .func f=>some (.one (.c (.fn f)))
def Ul (st:St) (gs:Gs):List Operand→Option (List PE)
 | []=>some []
 | x::xs=>match gW st gs x,Ul st gs xs with
   | some p,some ps=>some (p::ps)
   | _,_=>none
def rJ:PE→Option AE
 | .one (.adr a)=>some a
 | .one (.pt n)=>some (.pt n 0)
 | _=>none
def o8 (st:St) (gs:Gs) (s:Nat):Option BE:=
 match gW st gs (.tmp s) with
 | some (.one (.b e))=>some e
 | _=>none
def lit (e:BE) (w:Bool):BE:=if w then e else mkNot e
def oI (st:St) (pre:Gs):Gs→Option BE
 | []=>some (.c true)
 | (s,w)::r=>match o8 st pre s,oI st (pre++[(s,w)]) r with
   | some e,some g=>some (mkAnd (lit e w) g)
   | _,_=>none
def guardOf (st:St) (ops:Array Oper) (o:Oper):Option Gs:=
 match o.guard with
 | none=>some []
 | some (j,want)=>match (ops[j]?).bind (·.dst) with
   | some s=>match st.t[s]? with
     | some (.p (.one (.b _)))=>some [(s,want)]
     | some (.wg hs (.one (.b _)))=>some (hs++[(s,want)])
     | _=>none
   | none=>none
def Lh (e:IE):BE:=.and (.le (.c (-9223372036854775808)) e) (.le e (.c 9223372036854775807))
def arith (nw:iy) (k:IntKind) (e:IE):BE×PE:=
 if nw.nw&&k==.i64 then (Lh e,.one (.i k e)) else (.c true,.one (.i k (.wr k e)))
def O7 (op:BinOp) (a b:SE):Option (BE×PE):=
 match op with
 | .add=>some (.le (.add (.len a) (.len b)) (.c 9223372036854775807),.one (.s (.app a b)))
 | .eql=>some (.c true,.one (.b (.eqS a b)))
 | .neq=>some (.c true,.one (.b (.not (.eqS a b))))
 | .lss=>some (.c true,.one (.b (.ltS a b)))
 | .leq=>some (.c true,.one (.b (.or (.ltS a b) (.eqS a b))))
 | .gtr=>some (.c true,.one (.b (.not (.or (.ltS a b) (.eqS a b)))))
 | .geq=>some (.c true,.one (.b (.not (.ltS a b))))
 | _=>none
def TQ (nw:iy) (op:BinOp) (k:IntKind) (a b:IE):Option (BE×PE):=
 match op with
 | .add=>some (arith nw k (.add a b))
 | .sub=>some (arith nw k (.sub a b))
 | .mul=>some (arith nw k (.mul a b))
 | .quo=>some (.not (.eqI b (.c 0)),.one (.i k (.wr k (.quo a b))))
 | .rem=>some (.not (.eqI b (.c 0)),.one (.i k (.rem a b)))
 | .and=>some (.c true,.one (.i k (.bits .and k a b)))
 | .or=>some (.c true,.one (.i k (.bits .or k a b)))
 | .xor=>some (.c true,.one (.i k (.bits .xor k a b)))
 | .andNot=>some (.c true,.one (.i k (.bits .andNot k a b)))
 | .eql=>some (.c true,.one (.b (.eqI a b)))
 | .neq=>some (.c true,.one (.b (.not (.eqI a b))))
 | .lss=>some (.c true,.one (.b (.lt a b)))
 | .leq=>some (.c true,.one (.b (.le a b)))
 | .gtr=>some (.c true,.one (.b (.lt b a)))
 | .geq=>some (.c true,.one (.b (.le b a)))
 | _=>none
def IV (op:BinOp) (e:BE):Option (BE×PE):=
 match op with
 | .eql=>some (.c true,.one (.b (mkNot e)))
 | .neq=>some (.c true,.one (.b e))
 | _=>none
def eqC (P:Program) (t:TypeId):CE→CE→Option BE
 | .i k a,.i k' b=>match P.underlying t with
   | some (.int _)=>if k=k' then some (.eqI a b) else none
   | _=>none
 | .b a,.b b=>match P.underlying t with
   | some .bool=>some (.eqB a b)
   | _=>none
 | .s a,.s b=>match P.underlying t with
   | some .string=>some (.eqS a b)
   | _=>none
 | _,_=>none
def Wh (P:Program) (xs ys:List CE):List Field→Option BE
 | []=>some (.c true)
 | f :: fs => if f.name = "_" ∨ fZ P f.type = true then none else match xs[f.offset]?, ys[f.offset]? with
   | some x,some y=>match eqC P f.type x y,Wh P xs ys fs with
     | some e,some r=>some (mkAnd e r)
     | _,_=>none
   | _,_=>none
def NV (P:Program) (t:TypeId) (xs ys:List CE):Option BE:=
 if P.stoodInHeld t=true∨P.eqGuardType P.depth t=true then none else
 match P.underlying t with
 | some (.struct fs)=>Wh P xs ys fs.toList
 | _=>none
def VU (nw:iy) (P:Program) (op:BinOp) (t:TypeId):PE→PE→Option (BE×PE)
 | .one (.i k a),.one (.i k' b)=>
   match op with
   | .shl=>some (.le (.c 0) b,.one (.i k (.sh .shl k a b)))
   | .shr=>some (.le (.c 0) b,.one (.i k (.sh .shr k a b)))
   | op=>if k=k' then TQ nw op k a b else none
 | .one (.s a),.one (.s b)=>O7 op a b
 | .one (.b a),.one (.b b)=>
   match P.underlying t,op with
   | some .bool,.eql=>some (.c true,.one (.b (.eqB a b)))
   | some .bool,.neq=>some (.c true,.one (.b (.not (.eqB a b))))
   | _,_=>none
 | .one (.sl l),.one (.sl .nil)=>
   match P.underlying t with
   | some (.slice _)=>IV op (.nns l)
   | _=>none
 | .one (.pt n),.one (.c .nilp)=>
   match P.underlying t with
   | some (.pointer _)=>IV op (.nnp n)
   | _=>none
 | .one (.own _ _),.one (.c .nilp)=>
   match P.underlying t with
   | some (.pointer _)=>IV op (.c true)
   | _=>none
 | .agg xs,.agg ys=>
   match op with
   | .eql=>(NV P t xs ys).map fun e=>(.c true,.one (.b e))
   | .neq=>(NV P t xs ys).map fun e=>(.c true,.one (.b (mkNot e)))
   | _=>none
 | _,_=>none
def unE (nw:iy) (op:UnOp):PE→Option (BE×PE)
 | .one (.b a)=>match op with
   | .not=>some (.c true,.one (.b (mkNot a)))
   | _=>none
 | .one (.i k a)=>match op with
   | .neg=>some (arith nw k (.sub (.c 0) a))
   | .xor=>some (.c true,.one (.i k (.bits .xor k (.c (if k.signed then -1 else k.max)) a)))
   | _=>none
 | _=>none
def GI (P:Program) (src dst:TypeId):PE→Option (BE×PE)
 | .one (.i _ a)=>match P.underlying src,P.underlying dst with
   | some (.int _),some (.int k)=>some (.c true,.one (.i k (.wr k a)))
   | _,_=>none
 | .one (.s a)=>match P.underlying src,P.underlying dst with
   | some .string,some .string=>some (.c true,.one (.s a))
   | _,_=>none
 | _=>none
def Ou (k:IntKind):List CE→Option (List IE)
 | []=>some []
 | .i k' e::cs=>if k'=k then (Ou k cs).map (e::·) else none
 | _::_=>none
def WW (i:IE):List IE→Int→IE
 | [],_=>.c 0
 | x::xs,n=>if xs.isEmpty then x else .ite (.eqI i (.c n)) x (WW i xs (n+1))
def Lj (P:Program) (t:TypeId):PE→PE→Option (BE×PE)
 | .one (.s a),.one (.i _ i)=>match P.underlying t with
   | some .string=>some (.and (.le (.c 0) i) (.lt i (.len a)),.one (.i .u8 (.at a i)))
   | _=>none
 | .agg [.s x,.s y],.one (.i _ i)=>match P.underlying t with
   | some (.array n e)=>match P.underlying e,bU P e with
     | some _,some 1=>if n=2∧fZ P e=false then some (.and (.le (.c 0) i) (.lt i (.c 2)),.one (.s (.ite (.eqI i (.c 0)) x y))) else none
     | _,_=>none
   | _=>none
 | .agg (.i k x::xs),.one (.i _ i)=>match P.underlying t with
   | some (.array n e)=>match P.underlying e,bU P e,Ou k xs with
     | some _,some 1,some ys=>if n=xs.length+1∧fZ P e=false then some (.and (.le (.c 0) i) (.lt i (.c n)),.one (.i k (WW i (x::ys) 0))) else none
     | _,_,_=>none
   | _=>none
 | _,_=>none
def loE:Option PE→Option IE
 | none=>some (.c 0)
 | some (.one (.i _ l))=>some l
 | _=>none
def hiE (l:LE):Option PE→Option (BE×IE)
 | none=>some (.le (.cnt l) (.cap l),.cnt l)
 | some (.one (.i _ h))=>some (.and (.le (.c 0) h) (.le h (.cap l)),h)
 | _=>none
def MZ (P:Program) (t:TypeId) (x:PE) (lo hi:Option PE):Option (BE×PE):=
 match x,P.underlying t with
 | .one (.sl l),some (.slice e)=>match loE lo,hiE l hi,bU P e with
   | some a,some (c,b),some n=>some (.and c (.and (.le (.c 0) a) (.le a b)),.one (.sl (.sub l a b n)))
   | _,_,_=>none
 | .one (.s a),some .string=>
   match lo,hi with
   | none,none=>some (.c true,.one (.s a))
   | some (.one (.i _ l)),none=>some (.and (.le (.c 0) l) (.le l (.len a)),.one (.s (.sub a l (.len a))))
   | none,some (.one (.i _ h))=>some (.and (.le (.c 0) h) (.le h (.len a)),.one (.s (.sub a (.c 0) h)))
   | some (.one (.i _ l)),some (.one (.i _ h))=>some (.and (.and (.le (.c 0) h) (.le h (.len a))) (.and (.le (.c 0) l) (.le l h)),.one (.s (.sub a l h)))
   | _,_=>none
 | _,_=>none
def Us (P:Program) (t:TypeId) (l:List CE) (off:Nat):Option PE:=
 match P.underlying t,bU P t with
 | some _,some n=>if fZ P t then some (.agg ((l.drop off).take n)) else (l[off]?).map .one
 | _,_=>none
def wE (P:Program) (st:St) (t:TypeId):PE→Option PE
 | .one (.own k o)=>match st.m[k]?,P.underlying t,bU P t with
   | some b,some _,some n=>
     if fZ P t then (if o+n≤b.cells.length then some (.agg ((b.cells.drop o).take n)) else none)
     else (b.cells[o]?).map .one
   | _,_,_=>none
 | _=>none
def yC (place:Nat→Option (Nat×Nat)) (cells:List CE):List (Nat×PE)→Option (List CE)
 | []=>some cells
 | (i,v)::rest=>match place i with
   | some (off,size)=>if v.cells.length=size∧off+size≤cells.length then yC place (v.cells.zipIdx.foldl (fun cs (c,j)=>cs.set (off+j) c) cells) rest else none
   | none=>none
def nM (P:Program) (t:TypeId) (f:Nat):Option (Nat×Nat):=(jV P t f).bind fun (o,u)=>(bU P u).map fun n=>(o,n)
def iU (st:St) (gs:Gs):List (Nat×Operand)→Option (List (Nat×PE))
 | []=>some []
 | (i,x)::xs=>match gW st gs x,iU st gs xs with
   | some p,some ps=>some ((i,p)::ps)
   | _,_=>none
def J6 (P:Program) (t:TypeId) (parts:List (Nat×PE)):Option PE:=
 match P.underlying t,(jS P t).bind qF with
 | some (.struct fs),some z=>if fs.toList.all fun f=>(bU P f.type).isSome then (yC (nM P t) z parts).map .agg else none
 | some (.array _ e),some z=>match bU P e with
   | some n=>(yC (fun i=>some (i*n,n)) z parts).map .agg
   | none=>none
 | _,_=>none
def L9 (st:St) (gs:Gs):Option Operand→Option (Option PE)
 | none=>some none
 | some x=>(gW st gs x).map some
def MG (st:St) (gs:Gs):List Operand→Option (List Nat)
 | []=>some []
 | x::xs=>match gW st gs x,MG st gs xs with
   | some (.one (.pt n)),some l=>some (n::l)
   | _,_=>none
def PE.toA:PE→PE
 | .one (.pt n)=>.one (.adr (.pt n 0))
 | p=>p
def oZ (nw:iy) (P:Program) (st:St) (gs:Gs) (op:Op):Option (BE×PE):=
 match op with
 | .move x | .assign x=>(gW st gs x).map fun v=>(.c true,v)
 | .pick c a b=>match c with
   | .tmp s=>match o8 st gs s,gW st (gs++[(s,true)]) a,gW st (gs++[(s,false)]) b with
     | some e,some x,some y=>(phi e x y).map fun v=>(.c true,v)
     | _,_,_=>none
   | _=>none
 | .fieldAddr t x f=>match (gW st gs x).map PE.toA,jV P t f with
   | some (.one (.own k o)),some (off,u)=>if bU P u=some 0∨bU P u=none then none else some (.c true,.one (.own k (o+off)))
   | some (.one (.adr a)),some (off,u)=>if bU P u=some 0∨bU P u=none then none else some (a.ok,.one (.adr (a.plus off)))
   | _,_=>none
 | .field t x f=>match gW st gs x,jV P t f with
   | some (.agg l),some (off,u)=>(Us P u l off).map fun v=>(.c true,v)
   | _,_=>none
 | .nilCheck x=>match gW st gs x with
   | some (.one (.own k o))=>some (.c true,.one (.own k o))
   | some (.one (.adr a))=>some (.c true,.one (.adr a))
   | some (.one (.pt n))=>some (.nnp n,.one (.adr (.pt n 0)))
   | some (.one (.c (.fn f)))=>some (.c true,.one (.c (.fn f)))
   | _=>none
 | .indexAddr t x i=>match gW st gs x,gW st gs i,P.underlying t with
   | some (.one (.sl l)),some (.one (.i _ i)),some (.slice e)=>match bU P e with
     | some n=>some (.and (.and (.le (.c 0) i) (.lt i (.cnt l))) (.nns l),.one (.adr (.el l i n 0)))
     | none=>none
   | some (.one (.own k o)),some (.one (.i _ (.c i))),some (.array len e)=>match bU P e with
     | some n=>if 0≤i∧i<len then some (.c true,.one (.own k (o+i.toNat*n))) else none
     | none=>none
   | some (.one (.pt n)),some (.one (.i _ i)),some (.array len e)=>match bU P e with
     | some z=>some (.and (.and (.le (.c 0) i) (.lt i (.c len))) (.nnp n),.one (.adr (.ix n i z 0)))
     | none=>none
   | _,_,_=>none
 | .binOp op t x y _=>match gW st gs x,gW st gs y with
   | some a,some b=>VU nw P op t a b
   | _,_=>none
 | .unOp op _ x=>(gW st gs x).bind (unE nw op)
 | .convert s d x=>(gW st gs x).bind (GI P s d)
 | .index t x i=>match gW st gs x,gW st gs i with
   | some a,some b=>Lj P t a b
   | _,_=>none
 | .slice t x lo hi none=>match gW st gs x,L9 st gs lo,L9 st gs hi with
   | some a,some l,some h=>MZ P t a l h
   | _,_,_=>none
 | .extract (.tmp s) ix=>match st.t[s]? with
   | some (.tup l)=>(l[ix]?).map fun v=>(.c true,v)
   | _=>none
 | .load t x=>(gW st gs x).bind fun p=>(wE P st t p).map fun v=>(.c true,v)
 | .build t parts=>(iU st gs parts.toList).bind fun ps=>(J6 P t ps).map fun v=>(.c true,v)
 | .call { callee:=.builtin .len,args,argTypes }=>match args.toList,argTypes.toList with
   | [x],[t]=>match gW st gs x,P.underlying t with
     | some (.one (.s a)),some .string=>some (.c true,.one (.i .i64 (.len a)))
     | some (.one (.sl l)),some (.slice _)=>some (.c true,.one (.i .i64 (.cnt l)))
     | _,_=>none
   | _,_=>none
 | .call { callee:=.builtin .min,args,.. }=>match args.toList with
   | [x,y]=>match gW st gs x,gW st gs y with
     | some (.one (.i k a)),some (.one (.i k' b))=>if k=k' then some (.c true,.one (.i k (.ite (.lt b a) b a))) else none
     | _,_=>none
   | _=>none
 | .call { callee:=.builtin .max,args,.. }=>match args.toList with
   | [x,y]=>match gW st gs x,gW st gs y with
     | some (.one (.i k a)),some (.one (.i k' b))=>if k=k' then some (.c true,.one (.i k (.ite (.lt a b) b a))) else none
     | _,_=>none
   | _=>none
 | .makeFunc (.func f) first captured=>if first.size=0 then (MG st gs captured.toList).map fun l=>(.c true,.one (.clo f l)) else none
 | _=>none
def VE.names (s:Nat):VE→Bool
 | .wg gs _=>gs.any fun g=>g.1==s
 | _=>false
def St.put (st:St) (d:Nat) (v:VE):St:={ st with t:=(st.t.map fun u=>if u.names d then .dead else u).set d (if v.names d then .dead else v) }
def St.lF (st:St) (d:Option Nat) (v:VE):St:=
 match d with
 | some d=>st.put d v
 | none=>st
def CE.qA (m:Nat):CE→Bool
 | .own k _=>decide (k<m)
 | .osl k _=>decide (k<m)
 | _=>true
def VE.qA (m:Nat):VE→Bool
 | .dead=>true
 | .p x=>x.cells.all (CE.qA m)
 | .tup l=>l.all fun x=>x.cells.all (CE.qA m)
 | .wg _ x=>x.cells.all (CE.qA m)
def St.qA (st:St):Bool:=st.t.all (VE.qA st.m.length)&&st.m.all fun b=>b.cells.all (CE.qA st.m.length)
def CE.Ya:CE→Bool
 | .adr _=>true
 | _=>false
def CE.sto (N:Cnt) (c:CE):Bool:=c.blw N&&decide (c≠.c .undef)&&!c.Ya
def jg (gs:Gs) (v:PE):VE:=if gs=[] then .p v else .wg gs v
def Tc (n:Cnt):Value→CE×Cnt
 | .int k _=>(.i k (.x n.i),{ n with i:=n.i+1 })
 | .bool _=>(.b (.x n.b),{ n with b:=n.b+1 })
 | .string _=>(.s (.x n.s),{ n with s:=n.s+1 })
 | .slice none 0 0=>(.sl (.x n.l),{ n with l:=n.l+1 })
 | .pointer none=>(.pt n.p,{ n with p:=n.p+1 })
 | _=>(.v n.v,{ n with v:=n.v+1 })
def Td (n:Cnt):List Value→List CE×Cnt
 | []=>([],n)
 | v::vs=>let (x,n1):=Tc n v;let (xs,n2):=Td n1 vs;(x::xs,n2)
def Ez (P:Program) (n:Cnt) (t:TypeId):Option (PE×Cnt):=
 match jS P t with
 | some z=>if fZ P t then (let (l,n):=Td n z;some (.agg l,n)) else match z with
   | [v]=>let (x,n):=Tc n v;some (.one x,n)
   | _=>none
 | none=>none
def aX (P:Program) (n:Cnt):List TypeId→Option (List PE×Cnt)
 | []=>some ([],n)
 | t::ts=>match Ez P n t with
   | some (x,n1)=>match aX P n1 ts with
     | some (xs,n2)=>some (x::xs,n2)
     | none=>none
   | none=>none
def Tf (P:Program) (n:Cnt) (ts:List TypeId):Option (VE×Cnt):=
 match aX P n ts with
 | some ([x],n)=>some (.p x,n)
 | some (xs,n)=>some (.tup xs,n)
 | none=>none
def Cnt.sub (a b:Cnt):Cnt:=⟨a.i - b.i,a.b - b.b,a.s - b.s,a.v - b.v,a.l - b.l,a.p - b.p⟩
def Cnt.add (a b:Cnt):Cnt:=⟨a.i+b.i,a.b+b.b,a.s+b.s,a.v+b.v,a.l+b.l,a.p+b.p⟩
def Cnt.zero:Cnt:=⟨0,0,0,0,0,0⟩
def PE.Gf (P:Program) (t:TypeId):PE→Bool
 | .one _=>!fZ P t
 | .agg _=>fZ P t
def gJ (P:Program) (f:FuncId):Bool:=
 match P.funcs[f]? with
 | some fn => fn.name != "runtime.NumGoroutine" && fn.body.isSome
 | none=>false
def bu:FuncId:=1000001
def J5 (P:Program) (f:FuncId):Bool:=decide (f=bu)||gJ P f
def UV (P:Program) (f:FuncId):List TypeId:=
 match P.funcs[f]? with
 | some fn=>fn.resultTypes.toList
 | none=>[]
def aai (P:Program) (t:TypeId) (f:FuncId):List TypeId:=if f=bu then [t] else UV P f
def IU (g c:BE) (k:Fm):Fm:=
 match c with
 | .c true=>k
 | c=>.need g c k
def uw (st:St):Op→Option (List PE)
 | .move (.tmp s)=>match st.t[s]? with
   | some (.tup l)=>some l
   | _=>none
 | _=>none
def zx (P:Program) (st:St) (gs:Gs):Op→Option (List CE×TypeId)
 | .alloc t=>((jS P t).bind qF).map fun cs=>(cs,t)
 | .box t x=>(gW st gs x).map fun p=>(p.cells,t)
 | _=>none
def jI (P:Program) (st:St) (gs:Gs):Op→Option (List CE×TypeId×Nat)
 | .buildSlice t len parts=>match iU st gs parts.toList,P.underlying t with
   | some ps,some (.slice e)=>match bU P e,(jS P e).bind qF with
     | some n,some z=>
       if len*n≤2 ^ 24∧z.length=n∧n≠0 then
        match yC (fun i=>some (i*n,n)) ((List.range (len*n)).map fun i=>(z[i % n]?).getD (.c .undef)) ps with
        | some cs=>some (cs,e,len)
        | none=>none
       else none
     | _,_=>none
   | _,_=>none
 | _=>none
def qZ (P:Program) (st:St) (gs:Gs) (op:Op):Option (List CE×TypeId×Option Nat):=
 match zx P st gs op with
 | some (cs,t)=>some (cs,t,none)
 | none=>(jI P st gs op).map fun x=>(x.1,x.2.1,some x.2.2)
def zy (k:Nat):Option Nat→CE
 | none=>.own k 0
 | some n=>.osl k n
def Eg (st:St) (gs:Gs) (v:Operand) (args:List Operand):Option (FuncId×List PE):=
 match gW st gs v,Ul st gs args with
 | some (.one (.c (.fn f))),some vas=>if bu≤f then none else some (f,vas)
 | some (.one (.clo f l)),some vas=>if bu≤f then none else some (f,vas++l.map fun n=>.one (.pt n))
 | some (.one (.v n)),some vas=>some (bu,.one (.v n)::vas)
 | _,_=>none
def jo (t k:Nat):Nat:=2000000+(t*8+k)
def rE (P:Program) (t:TypeId):Option TypeId:=match P.underlying t with
 | some (.map k e)=>match P.underlying k with
   | some .string=>some e
   | _=>none
 | _=>none
def XX:Op→Option (TypeId×Operand×Operand)
 | .call { callee:=.builtin .delete,args,argTypes }=>match args.toList,argTypes.toList with
   | [m,k],t::_=>some (t,m,k)
   | _,_=>none
 | _=>none
def Oz (P:Program) (st:St) (gs:Gs) (op:Op):Option (FuncId×List PE×VE×Cnt):=
 match op with
 | .lookup t m k ok=>match rE P t,gW st gs m,gW st gs k with
   | some e,some x,some (.one (.s s))=>(Ez P st.n e).map fun r=>
     if ok then (jo t 1,[x,.one (.s s)],.tup [r.1,.one (.b (.x r.2.b))],{ r.2 with b:=r.2.b+1 }) else (jo t 0,[x,.one (.s s)],.p r.1,r.2)
   | _,_,_=>none
 | .mapUpdate t m k v=>match rE P t,gW st gs m,gW st gs k,gW st gs v with
   | some _,some x,some (.one (.s s)),some y=>some (jo t 2,[x,.one (.s s),y],.p (.one (.c .undef)),st.n)
   | _,_,_,_=>none
 | .makeMap t none=>(rE P t).map fun _=>(jo t 4,[],.p (.one (.v st.n.v)),{ st.n with v:=st.n.v+1 })
 | op=>match XX op with
   | some (t,m,k)=>match rE P t,gW st gs m,gW st gs k with
     | some _,some x,some (.one (.s s))=>some (jo t 3,[x,.one (.s s)],.tup [],st.n)
     | _,_,_=>none
   | none=>none
def vw (P:Program) (st:St) (gs:Gs) (o:Oper):Option (FuncId×List PE×VE×Cnt):=
 match Oz P st gs o.op with
 | some x=>some x
 | none=>match o.op with
   | .call { callee:=.value v,args,.. }=>(Eg st gs v args.toList).bind fun fv=>if J5 P fv.1=true then (Tf P st.n (aai P o.type fv.1)).map fun x=>(fv.1,fv.2,x.1,x.2) else none
   | _=>none
def RI:Op→Option (TypeId×Operand×Operand)
 | .call { callee:=.builtin .append,args,argTypes }=>match args.toList,argTypes.toList with
   | [s,y],[t,t']=>if t'=t then some (t,s,y) else none
   | _,_=>none
 | _=>none
def stOp (P:Program) (st:St) (gs:Gs) (op:Op):Option (FuncId×List PE×VE×Cnt):=
 match op with
 | .store t x y=>match gW st gs x,gW st gs y,bU P t with
   | some a,some p,some n=>if (rJ a).isSome=true∧p.cells.all (CE.sto st.n)=true∧p.cells.length=n then some (jo t 5,[a,p],.p (.one (.c .undef)),st.n) else none
   | _,_,_=>none
 | op=>match RI op with
   | some (t,x,y)=>match gW st gs x,gW st gs y,P.underlying t with
     | some (.one (.sl s)),some (.one (.sl u)),some (.slice e)=>match P.info? e with
       | some i=>match i.zero with
         | some z=>if z.cells.size=i.size∧0<i.size∧e<1000000 then
          some (jo t 6,[.one (.sl s),.one (.sl u),.one (.i .i64 (.c (i.size:Nat))),.one (.i .i64 (.c (i.bytes:Nat))),.one (.i .i64 (.c (e:Nat)))],.p (.one (.sl (.x st.n.l))),{ st.n with l:=st.n.l+1 })
          else none
         | none=>none
       | none=>none
     | some (.one (.sl s)),some (.one (.osl k n)),some (.slice e)=>match P.info? e,st.m[k]? with
       | some i,some b=>match i.zero with
         | some z=>if z.cells.size=i.size∧0<i.size∧e<1000000∧b.cells.length=n*i.size∧b.cells.all CE.plain=true∧b.cells.all (CE.sto st.n)=true then
          some (jo t 7,[.one (.sl s),.one (.i .i64 (.c (n:Nat))),.one (.i .i64 (.c (i.size:Nat))),.one (.i .i64 (.c (i.bytes:Nat))),.one (.i .i64 (.c (e:Nat)))]++b.cells.map .one,.p (.one (.sl (.x st.n.l))),{ st.n with l:=st.n.l+1 })
          else none
         | none=>none
       | _,_=>none
     | _,_,_=>none
   | none=>none
def WT (st:St) (x:Option (List CE×TypeId)) (gs:Gs) (d:Option Nat) (K:St→Fm):Fm:=
 match x with
 | some (cs,t)=>if gs=[]∧st.blw=true∧cs.all CE.plain=true then .new cs t (K ({ st with n:={ st.n with p:=st.n.p+1 } }.lF d (.p (.one (.pt st.n.p))))) else .ff
 | none=>.ff
def YY (P:Program) (st:St) (gs:Gs) (t:TypeId) (x y:Operand) (d:Option Nat) (K:St→Fm):Fm:=
 match gW st gs x,gW st gs y,P.underlying t with
 | some (.one (.i _ l)),some (.one (.i _ c)),some (.slice e)=>match P.info? e,(jS P e).bind qF with
   | some i,some [z]=>if gs=[]∧c=l∧st.blw=true∧i.size=1∧i.bytes≤1024∧z.plain=true then .Ye l z e (K ({ st with n:={ st.n with l:=st.n.l+1 } }.lF d (.p (.one (.sl (.x st.n.l)))))) else .ff
   | _,_=>.ff
 | _,_,_=>.ff
def Y8 (k n:Nat) (v:VE):VE:=if v=.p (.one (.own k 0)) then .p (.one (.pt n)) else v
def Y7 (st:St) (gs:Gs) (f k:Nat) (d:Option Nat) (K:St→Fm):Fm:=
 match st.m[k]? with
 | some b=>if gs=[]∧st.blw=true∧st.m.length=k+1∧b.cells.all CE.plain=true∧(st.m.all fun b=>b.cells.all (CE.qA k))=true∧(st.t.all fun v=>decide (v=.p (.one (.own k 0)))||v.qA k)=true then
  .new b.cells b.ty (K ({ t:=st.t.map (Y8 k st.n.p),m:=st.m.dropLast,n:={ st.n with p:=st.n.p+1 }:St }.lF d (.p (.one (.clo f [st.n.p])))))
  else .ff
 | none=>.ff
def UL (k len n:Nat) (v:VE):VE:=if v=.p (.one (.osl k len)) then .p (.one (.sl (.x n))) else v
def ZR:VE→Option (Nat×Nat)
 | .p (.one (.osl k n))=>some (k,n)
 | _=>none
def Xk (st:St) (K:St→Fm):Fm:=
 match st.t.findSome? ZR with
 | some (k,len)=>match st.m[k]? with
   | some b=>if st.blw=true∧st.m.length=k+1∧b.cells.all CE.plain=true∧(st.t.all fun v=>decide (v=.p (.one (.osl k len)))||v.qA k)=true then
    .mk b.cells b.ty len (K { t:=st.t.map (UL k len st.n.l),m:=st.m.dropLast,n:={ st.n with l:=st.n.l+1 } })
    else .ff
   | none=>.ff
 | none=>K st
def Kt (st:St) (gs:Gs):Op→Option (Nat×Nat)
 | .makeFunc (.func f) first captured=>match first.toList,captured.toList with
   | [],[x]=>match gW st gs x with
     | some (.one (.own k 0))=>some (f,k)
     | _=>none
   | _,_=>none
 | _=>none
def rQ (P:Program) (s d:TypeId):Bool:=
 match P.underlying s,P.underlying d with
 | some (.slice e),some .string=>match P.underlying e with
   | some (.int .u8)=>true
   | _=>false
 | _,_=>false
def ZA (nw:iy) (d:Option Nat):Bool:=nw.esc.any fun s=>decide (d=some s)
def yM (nw:iy) (P:Program) (ops:Array Oper) (o:Oper) (st:St) (K:St→Fm):Fm:=
 match guardOf st ops o with
 | none=>.ff
 | some gs=>match oI st [] gs with
   | none=>.ff
   | some g=>
     match vw P st gs o with
     | some (f,vas,r,n)=>
       if !(st.blw&&vas.all PE.plain&&r.plain&&decide (st.n.add (n.sub st.n)=n)) then .ff else
       match r with
       | .p x=>.call g false f vas r (n.sub st.n) (K ({ st with n:=n }.lF o.dst (jg gs x)))
       | r=>if gs=[] then .call g false f vas r (n.sub st.n) (K ({ st with n:=n }.lF o.dst r)) else .ff
     | none=>match o.op with
     | .alloc t=>if ZA nw o.dst then WT st (zx P st gs o.op) gs o.dst K else match jS P t with
       | some z=>match qF z with
         | some cs=>if gs=[]∧st.qA=true∧cs.all (CE.qA st.m.length)=true then K ({ st with m:=st.m++[ou.mk cs t] }.lF o.dst (.p (.one (.own st.m.length 0)))) else .ff
         | none=>.ff
       | none=>.ff
     | .box t x=>if ZA nw o.dst then WT st (zx P st gs o.op) gs o.dst K else match gW st gs x with
       | some p=>if gs=[]∧st.qA=true∧p.cells.all (CE.qA st.m.length)=true then K ({ st with m:=st.m++[ou.mk p.cells t] }.lF o.dst (.p (.one (.own st.m.length 0)))) else .ff
       | none=>.ff
     | .buildSlice t len parts=>match iU st gs parts.toList,P.underlying t with
       | some ps,some (.slice e)=>match bU P e,(jS P e).bind qF with
         | some n,some z=>
           if gs=[]∧st.blw=true∧len*n≤2 ^ 24∧z.length=n∧n≠0 then
            match yC (fun i=>some (i*n,n)) ((List.range (len*n)).map fun i=>(z[i % n]?).getD (.c .undef)) ps with
            | some cs=>if cs.all CE.plain&&ps.all (fun x=>x.2.plain) then .mk cs e len (K ({ st with n:={ st.n with l:=st.n.l+1 } }.lF o.dst (.p (.one (.sl (.x st.n.l)))))) else .ff
            | none=>.ff
           else .ff
         | _,_=>.ff
       | _,_=>.ff
     | .call { callee:=.builtin .append,args,argTypes }=>match Ul st gs args.toList,argTypes.toList with
       | some [.one (.sl s),.one (.sl y)],[t,t']=>match P.underlying t,jS P t with
         | some (.slice e),some _=>match P.info? e with
           | some i=>match i.zero with
             | some z=>if gs=[]∧t'=t∧st.blw=true∧z.cells.size=i.size∧0<i.size∧e<1000000 then
              .app s y i.size i.bytes e (K ({ st with n:={ st.n with l:=st.n.l+1 } }.lF o.dst (.p (.one (.sl (.x st.n.l))))))
              else .ff
             | none=>.ff
           | none=>.ff
         | _,_=>.ff
       | some [.one (.sl s),.one (.s y)],[t,t']=>match P.underlying t,P.underlying t' with
         | some (.slice e),some .string=>match P.info? e with
           | some i=>match i.zero with
             | some (.int .u8 z)=>if gs=[]∧z=0∧st.blw=true∧i.size=1∧i.bytes=1∧e<1000000 then
              .aps s y e (K ({ st with n:={ st.n with l:=st.n.l+1 } }.lF o.dst (.p (.one (.sl (.x st.n.l))))))
              else .ff
             | _=>.ff
           | none=>.ff
         | _,_=>.ff
       | _,_=>.ff
     | .convert s d x=>match gW st gs x,rQ P s d with
       | some (.one (.sl l)),true=>if gs=[]∧st.blw=true then .str l (K ({ st with n:={ st.n with s:=st.n.s+1 } }.lF o.dst (.p (.one (.s (.x st.n.s)))))) else .ff
       | _,_=>match oZ nw P st gs o.op with
         | some (c,v)=>IU g c (K (st.lF o.dst (jg gs v)))
         | none=>.ff
     | .load t x=>match (gW st gs x).bind rJ with
       | some a=>match Ez P st.n t,bU P t,P.underlying t with
         | some (r,n),some sz,some _=>
           if st.blw&&r.plain&&decide (st.n.add (n.sub st.n)=n)&&decide (r.cells.length=sz)&&r.Gf P t then
            .load g a sz r.cells (n.sub st.n) (K ({ st with n:=n }.lF o.dst (jg gs r)))
           else .ff
         | _,_,_=>.ff
       | none=>match gW st gs x with
         | some p=>match wE P st t p with
           | some v=>K (st.lF o.dst (jg gs v))
           | none=>.ff
         | none=>.ff
     | .store t a x=>match (gW st gs a).bind rJ,gW st gs x,bU P t with
       | some a,some p,some n=>if gs=[]∧st.blw=true∧p.plain=true∧p.cells.all (CE.sto st.n)=true∧p.cells.length=n then .store a p.cells (K (st.lF o.dst .dead)) else .ff
       | _,_,_=>match gW st gs a,gW st gs x,bU P t with
         | some (.one (.own k off)),some p,some n=>match st.m[k]? with
           | some b=>if gs=[]∧p.cells.all (CE.sto st.n)=true∧p.cells.length=n∧off+n≤b.cells.length then K ({ st with m:=st.m.set k ⟨b.cells.take off++p.cells++b.cells.drop (off+n),b.ty⟩ }.lF o.dst .dead) else .ff
           | none=>.ff
         | _,_,_=>.ff
     | .makeSlice t x y=>YY P st gs t x y o.dst K
     | op=>match uw st op with
       | some l=>if gs=[] then K (st.lF o.dst (.tup l)) else .ff
       | none=>match Kt st gs op with
         | some (f,k)=>Y7 st gs f k o.dst K
         | none=>match oZ nw P st gs op with
           | some (c,v)=>IU g c (K (st.lF o.dst (jg gs v)))
           | none=>.ff
def qV (nw:iy) (P:Program) (ops:Array Oper):List Oper→St→(St→Fm)→Fm
 | [],st,K=>K st
 | o::os,st,K=>yM nw P ops o st fun st=>qV nw P ops os st K
end Go.Proofs.YtgpanefhaiohnaaGreatDoor
namespace Go.Proofs.YtgpanefhaiohnaaGreatDoor
open Go.RowKit
def Un (h:Hp) (k:Nat):Prop:=∀ o,h k=some o→o.ty=1000003
theorem Un.none {h:Hp} {k:Nat} (hn:h k=.none):Un h k:=fun o ho=>by rw[hn] at ho;cases ho
theorem Un.set {h:Hp} {k b:Nat} {o:HO} (hb:k≠b) (hn:Un h k):Un (h.set b o) k:=fun x hx=>hn x (by simp only[Hp.set,if_neg hb] at hx;exact hx)
theorem Un.ne {h:Hp} {k b:Nat} {o:HO} (hn:Un h k) (hb:h b=some o) (hT:o.ty<1000000):k≠b:=fun e=>by rw[hn o (by rw[e];exact hb)] at hT;exact absurd hT (by decide)
structure Fr (B:Nat) (h0 h:Hp) (w0 w:World):Prop where
 os:w.os=w0.os
 tape:w.tape=w0.tape
 output:w.output=w0.output
 size:w0.heap.size≤w.heap.size
 block:∀ k,k<B→Un h0 k→w.heap[k]? = w0.heap[k]?
 ghost:∀ k,k<B→h0 k=none→h k=none
 un:∀ k,k<B→Un h0 k→Un h k
theorem Fr.refl (B:Nat) (h:Hp) (w:World):Fr B h h w w:=⟨rfl,rfl,rfl,Nat.le_refl _,fun _ _ _=>rfl,fun _ _ h=>h,fun _ _ h=>h⟩
theorem Fr.trans {B:Nat} {h0 h k:Hp} {w0 w u:World} (a:Fr B h0 h w0 w) (b:Fr w.heap.size h k w u) (hB:B≤w.heap.size):Fr B h0 k w0 u:=
 ⟨b.os.trans a.os,b.tape.trans a.tape,b.output.trans a.output,Nat.le_trans a.size b.size,fun i hi h0=>(b.block i (by omega) (a.un i hi h0)).trans (a.block i hi h0),fun i hi h0=>b.ghost i (by omega) (a.ghost i hi h0),fun i hi h0=>b.un i (by omega) (a.un i hi h0)⟩
abbrev jh:=List UInt8×Value×Nat
def jh.v (e:jh):Value:=.agg #[.string (B e.1),e.2.1,.int .i64 e.2.2]
def jh.m (e:jh):MapEntry:=⟨.string (B e.1),e.2.1,e.2.2⟩
theorem bW {a b:List UInt8}:(B a=B b)=(a=b):=by
 apply propext
 constructor
 · intro h
   have:=congrArg ByteArray.toList h
   rwa [fQ,fQ] at this
 · rintro rfl;rfl
theorem Hf:∀ {es fs:List jh},es.map jh.v=fs.map jh.v→es=fs
 | [],[],_=>rfl
 | [],_::_,h=>by cases h
 | _::_,[],h=>by cases h
 | e::es,f::fs,h=>by
   rw[List.map_cons,List.map_cons] at h
   injection h with h1 h2
   rw[Hf h2]
   obtain⟨a,b,c⟩:=e
   obtain⟨a',b',c'⟩:=f
   simp only[jh.v,Value.agg.injEq,Array.mk.injEq,List.cons.injEq,Value.string.injEq,Value.int.injEq,and_true,true_and] at h1
   obtain⟨h1,rfl,h3⟩:=h1
   rw[bW.mp h1,Int.ofNat.inj h3]
def rG (u:Value):Prop:=∀ l,u≠.agg l
theorem vk {u:Value} (h:u.oneCell'=true):rG u:=fun l e=>by rw[e] at h;cases h
def sH (es:List jh):List Value:=.agg #[]::es.map jh.v
theorem He (es:List jh):∀ u∈sH es,¬ rG u:=by
 intro u hu h
 rcases List.mem_cons.1 hu with rfl | hu
 · exact h _ rfl
 · obtain⟨e,_,rfl⟩:=List.mem_map.1 hu
   exact h _ rfl
def gI (o:HO) (x:Option Obj):Prop:=
 (∃ T fz,x=some (.cells o.cs.toArray T fz)∧(o.ty<1000000→T=o.ty∧fz=(0,0))∧(o.ty=1000004→∀ u∈o.cs,rG u))∨
 (o.ty=1000004∧∃ (es:List jh) (clock:Nat),o.cs=sH es∧x=some (.map (es.map jh.m).toArray clock)∧∀ e∈es,e.2.2<clock)
theorem gI.of {o:HO} {x:Option Obj} (h:x=some (.cells o.cs.toArray o.ty (0,0))) (hT:o.ty<1000000∨∀ u∈o.cs,rG u:=by first | exact .inl (by assumption) | exact .inl (by decide)):gI o x:=
 .inl ⟨_,_,h,fun _=>⟨rfl,rfl⟩,fun e=>hT.elim (fun h=>absurd h (by rw[e];decide)) id⟩
theorem gI.rw {o:HO} {x:Option Obj} (h:gI o x) (hT:o.ty<1000000):x=some (.cells o.cs.toArray o.ty (0,0)):=by
 rcases h with ⟨T,fz,rfl,h2,_⟩ | ⟨h,_⟩
 · obtain⟨rfl,rfl⟩:=h2 hT
   rfl
 · rw[h] at hT;exact absurd hT (by decide)
theorem gI.cells {o:HO} {x:Option Obj} (h:gI o x) {u:Value} (hu:u∈o.cs) (h1:rG u):∃ T fz,x=some (.cells o.cs.toArray T fz):=by
 rcases h with ⟨T,fz,h,_⟩ | ⟨_,es,_,he,_⟩
 · exact⟨T,fz,h⟩
 · rw[he] at hu
   exact absurd h1 (He es u hu)
theorem gI.map {es:List jh} {x:Option Obj} (h:gI ⟨sH es,1000004⟩ x):∃ clock,x=some (.map (es.map jh.m).toArray clock)∧∀ e∈es,e.2.2<clock:=by
 rcases h with ⟨T,fz,_,_,h⟩ | ⟨_,fs,k,h1,h2,h3⟩
 · exact absurd (h rfl (.agg #[]) (by simp[sH])) (He es _ (by simp[sH]))
 · have:es=fs:=Hf (List.cons.inj h1).2
   subst this
   exact⟨k,h2,h3⟩
theorem gI.some {o:HO} {x:Option Obj} (h:gI o x):∃ y,x=some y:=by
 rcases h with ⟨T,fz,h,_⟩ | ⟨_,es,k,_,h,_⟩
 · exact⟨_,h⟩
 · exact⟨_,h⟩
def Holds (h:Hp) (w:World):Prop:=∀ b o,h b=some o→gI o w.heap[b]?
theorem Holds.lt {h:Hp} {w:World} (H:Holds h w) {b:Nat} (hb:h b≠none):b<w.heap.size:=by
 cases e:h b with
 | none=>exact absurd e hb
 | some o=>
   obtain⟨y,h1⟩:=(H b o e).some
   exact (Array.getElem?_eq_some_iff.1 h1).1
theorem Holds.below {h:Hp} {w u:World} (H:Holds h w) (k:Below w.heap.size w u):Holds h u:=fun b o hb=>by
 rw[k.block b (H.lt (by rw[hb];simp))]
 exact H b o hb
theorem Fr.of_below {h:Hp} {w u:World} (k:Below w.heap.size w u):Fr w.heap.size h h w u:=⟨k.os,k.tape,k.output,k.size,fun i hi _=>k.block i hi,fun _ _ h=>h,fun _ _ h=>h⟩
structure Rep (B:Nat) (h0:Hp) (w0:World) (ρ:Nat→Nat) (st:St) (C:Ctx) (a:Act) (w:World):Prop where
 defers:a.defers=[]
 size:a.tmps.size=st.t.length
 slots:∀ (i:Nat) (v:VE),st.t[i]? = some v→v.holds C ρ a.tmps (a.tmps.getD i undef)
 blocks:∀ (k:Nat) (b:ou),st.m[k]? = some b→w.heap[ρ k]? = some (.cells (b.cells.map (CE.den C ρ)).toArray b.ty (0,0))
 fresh:∀ k,k<st.m.length→B≤ρ k∨¬ Un h0 (ρ k)
 inj:∀ k j,k<st.m.length→j<st.m.length→ρ k=ρ j→k=j
 free:∀ k,k<st.m.length→C.h (ρ k)=none
 holds:Holds C.h w
 fr:Fr B h0 C.h w0 w
 base:B≤w.heap.size
 ci:C.i.length=st.n.i
 cb:C.b.length=st.n.b
 cs:C.s.length=st.n.s
 cv:C.v.length=st.n.v
 cl:C.l.length=st.n.l
 cp:C.p.length=st.n.p
 ones:dZ C.v
def dA (gs:Gs) (t:Array Value):Prop:=∀ g∈gs,t.getD g.1 undef=.bool g.2
theorem aK (t:Array Value):dA [] t:=fun _ h=>by cases h
theorem kF {g h:Gs} {t:Array Value}:dA (g++h) t↔dA g t∧dA h t:=by
 unfold dA
 constructor
 · exact fun H=>⟨fun x hx=>H x (List.mem_append_left _ hx),fun x hx=>H x (List.mem_append_right _ hx)⟩
 · rintro⟨h1,h2⟩ x hx
   rcases List.mem_append.1 hx with hx | hx
   · exact h1 x hx
   · exact h2 x hx
theorem jy {s:Nat} {w:Bool} {t:Array Value}:dA [(s,w)] t↔t.getD s undef=.bool w:=by
 unfold dA;simp
theorem RV {C:Ctx} (ho:dZ C.v) (ρ:Nat→Nat) (c:CE):(c.den C ρ).cells=#[c.den C ρ]:=by
 cases c with
 | v n=>
   show (C.v.getD n undef).cells=#[C.v.getD n undef]
   rw[List.getD_eq_getElem?_getD]
   cases h:C.v[n]? with
   | none=>rfl
   | some u=>
     have hu:=ho u (List.mem_of_getElem? h)
     show u.cells=#[u]
     cases u<;>first | rfl | cases hu
 | c k=>cases k<;>rfl
 | adr x=>
   show (kL (x.den C)).cells=#[kL (x.den C)]
   cases x.den C<;>rfl
 | _=>rfl
theorem uH {C:Ctx} (ho:dZ C.v) (ρ:Nat→Nat) (c:CE) (N:Cnt) (hN:N.v=C.v.length) (hb:c.blw N=true) (hk:c≠.c .undef) (ha:c.Ya=false):(c.den C ρ).oneCell'=true:=by
 cases c with
 | v n=>
   have hn:n<C.v.length:=by simp only[CE.blw,decide_eq_true_eq] at hb;omega
   show (C.v.getD n undef).oneCell'=true
   rw[List.getD_eq_getElem?_getD,List.getElem?_eq_getElem hn]
   exact ho _ (List.getElem_mem hn)
 | c k=>cases k<;>first | rfl | exact absurd rfl hk
 | adr x=>cases ha
 | _=>rfl
theorem Gx {C:Ctx} (ho:dZ C.v) (ρ:Nat→Nat) (c:CE):rG (c.den C ρ):=by
 intro l e
 cases c with
 | v n=>
   have e':C.v.getD n undef=.agg l:=e
   rw[List.getD_eq_getElem?_getD] at e'
   cases h:C.v[n]? with
   | none=>rw[h] at e';cases e'
   | some u=>
     rw[h] at e'
     exact vk (ho u (List.mem_of_getElem? h)) l e'
 | c k=>cases k<;>cases e
 | adr x=>
   have e':kL (x.den C)=.agg l:=e
   cases hx:x.den C<;>rw[hx] at e'<;>cases e'
 | _=>cases e
theorem jv {C:Ctx} (ho:dZ C.v) (ρ:Nat→Nat) (cs:List CE):∀ u∈cs.map (CE.den C ρ),rG u:=fun u hu=>by
 obtain⟨c,_,rfl⟩:=List.mem_map.1 hu
 exact Gx ho ρ c
theorem kZ {C:Ctx} (ho:dZ C.v) (ρ:Nat→Nat) (p:PE):(p.den C ρ).cells=(p.cells.map (CE.den C ρ)).toArray:=by
 cases p with
 | one c=>exact RV ho ρ c
 | agg l=>rfl
theorem vS (l:List UInt8):(l.map UInt8.toNat).map UInt8.ofNat=l:=by
 induction l with
 | nil=>rfl
 | cons x l ih=>simp only[List.map_cons,ih];simp
theorem TY {v:Value} {k:KV} (h:YT v=some k):k.val=v:=by
 unfold YT at h
 split at h<;>cases h<;>rfl
theorem Gw {v:Value} {e:CE} (C:Ctx) (ρ:Nat→Nat) (h:VY v=some e):e.den C ρ=v:=by
 unfold VY at h
 split at h
 · cases h;rfl
 · cases h;rfl
 · rename_i s
   cases h
   show Value.string (B _)=_
   congr 1
   show B ((s.data.toList.map UInt8.toNat).map UInt8.ofNat)=s
   rw[vS]
   exact (pg s).symm
 · cases h;rfl
 · simp only[Option.map_eq_some_iff] at h
   obtain⟨k,hk,rfl⟩:=h
   exact TY hk
theorem iW {vs:List Value}:∀ {es:List CE} (C:Ctx) (ρ:Nat→Nat),qF vs=some es→es.map (CE.den C ρ)=vs:=by
 induction vs with
 | nil=>intro es C ρ h;cases h;rfl
 | cons v vs ih=>
   intro es C ρ h
   rw[qF] at h
   split at h
   · rename_i x xs hx hxs
     cases h
     rw[List.map_cons,Gw C ρ hx,ih C ρ hxs]
   · cases h
theorem Uu {v:Value} {p:PE} (C:Ctx) (ρ:Nat→Nat) (h:Y4 v=some p):p.den C ρ=v:=by
 unfold Y4 at h
 split at h
 · rename_i cs
   simp only[Option.map_eq_some_iff] at h
   obtain⟨es,he,rfl⟩:=h
   show Value.agg (es.map (CE.den C ρ)).toArray=_
   rw[iW C ρ he]
 · simp only[Option.map_eq_some_iff] at h
   obtain⟨e,he,rfl⟩:=h
   exact Gw C ρ he
section
variable {B:Nat} {h0:Hp} {w0:World} {ρ:Nat→Nat} {st:St} {C:Ctx} {a:Act} {w:World}
theorem az (R:Rep B h0 w0 ρ st C a w) {gs:Gs} (hg:dA gs a.tmps) {x:Operand} {p:PE} (h:gW st gs x=some p):a.eval x=p.den C ρ:=by
 cases x with
 | tmp t=>
   simp only[gW] at h
   have hs:=R.slots t
   show a.tmps.getD t undef=_
   split at h
   · rename_i y hy
     cases h
     exact hs _ hy
   · rename_i hs' y hy
     split at h
     · rename_i hall
       cases h
       refine (hs _ hy).1 (fun g hgm=>?_)
       have:=List.all_eq_true.1 hall g hgm
       exact hg g (by simpa using this)
     · cases h
   · cases h
 | const v=>exact (Uu C ρ h).symm
 | global g=>cases h;rfl
 | func f=>cases h;rfl
theorem XE {gs:Gs} {x:Operand} {k o:Nat} (h:(gW st gs x).map PE.toA=some (.one (.own k o))):gW st gs x=some (.one (.own k o)):=by
 rw[Option.map_eq_some_iff] at h
 obtain⟨p,hp,h⟩:=h
 unfold PE.toA at h
 split at h
 · cases h
 · rw[hp,h]
theorem Vw (R:Rep B h0 w0 ρ st C a w) {gs:Gs} (hg:dA gs a.tmps) {x:Operand} {y:AE} {q:Nat×Nat} (h:(gW st gs x).map PE.toA=some (.one (.adr y))) (hq:y.den C=some q):a.eval x=.pointer (some ⟨q.1,q.2,none⟩):=by
 rw[Option.map_eq_some_iff] at h
 obtain⟨p,hp,h⟩:=h
 unfold PE.toA at h
 split at h
 · rename_i n
   cases h
   rw[az R hg hp]
   simp only[AE.den,Option.map_eq_some_iff] at hq
   obtain⟨z,hz,rfl⟩:=hq
   show Value.pointer ((C.p.getD n none).map fun x=>⟨x.1,x.2,none⟩)=_
   rw[hz];rfl
 · subst h
   rw[az R hg hp]
   show kL (y.den C)=_
   rw[hq];rfl
theorem Px {p:PE} {ad:AE} (h:rJ p=some ad) {C:Ctx} {ρ:Nat→Nat} {q:Nat×Nat} (hq:ad.den C=some q):p.den C ρ=.pointer (some ⟨q.1,q.2,none⟩):=by
 unfold rJ at h
 split at h
 · cases h
   show kL (ad.den C)=_
   rw[hq];rfl
 · rename_i n
   cases h
   have hq':(C.p.getD n none).map (fun x=>(x.1,x.2+0))=some q:=hq
   show Value.pointer ((C.p.getD n none).map fun x=>⟨x.1,x.2,none⟩)=_
   cases hp:C.p.getD n none with
   | none=>rw[hp] at hq';cases hq'
   | some y=>
     rw[hp] at hq'
     cases hq'
     rfl
 · cases h
theorem xM (R:Rep B h0 w0 ρ st C a w) {gs:Gs} (hg:dA gs a.tmps) {x:Operand} {ad:AE} (h:(gW st gs x).bind rJ=some ad) {q:Nat×Nat} (hq:ad.den C=some q):a.eval x=.pointer (some ⟨q.1,q.2,none⟩):=by
 simp only[Option.bind_eq_some_iff] at h
 obtain⟨p,hp,ha⟩:=h
 rw[az R hg hp]
 exact Px ha hq
theorem mQ (R:Rep B h0 w0 ρ st C a w) {gs:Gs} (hg:dA gs a.tmps) {xs:List Operand}:∀ {ps:List PE},Ul st gs xs=some ps→xs.map a.eval=ps.map (PE.den C ρ):=by
 induction xs with
 | nil=>intro ps h;cases h;rfl
 | cons x xs ih=>
   intro ps h
   rw[Ul] at h
   split at h
   · rename_i p ps hp hps
     cases h
     rw[List.map_cons,List.map_cons,az R hg hp,ih hps]
   · cases h
theorem nT (R:Rep B h0 w0 ρ st C a w) {gs:Gs} (hg:dA gs a.tmps) {s:Nat} {e:BE} (h:o8 st gs s=some e):a.tmps.getD s undef=.bool (e.den C):=by
 unfold o8 at h
 split at h
 · rename_i e' he
   cases h
   exact az R hg he
 · cases h
theorem mO (e:BE):(mkNot e).den C=!e.den C:=by
 unfold mkNot;split<;>simp[BE.den]
theorem uX (e f:BE):(mkAnd e f).den C=(e.den C&&f.den C):=by
 unfold mkAnd;split<;>simp[BE.den]
theorem Uf (e f:BE):(YX e f).den C=(e.den C||f.den C):=by
 unfold YX;split<;>simp[BE.den]
theorem WP (e:BE) (x:Bool):(lit e x).den C=true↔e.den C=x:=by
 unfold lit
 cases x
 · simp[mO]
 · simp
theorem Qp (b p q:BE):(Ue b p q).den C=bif b.den C then p.den C else q.den C:=by
 unfold Ue
 split
 · rename_i h;subst h;cases b.den C<;>rfl
 · split
   · simp[BE.den]
   · simp[BE.den,mO]
   · simp[BE.den,Uf]
   · simp[BE.den,uX]
   · rfl
theorem Jc {e:BE} {x y z:CE} (h:WZ e x y=some z):z.den C ρ=bif e.den C then x.den C ρ else y.den C ρ:=by
 unfold WZ at h
 split at h
 · split at h
   · rename_i hk
     subst hk
     cases h
     split
     · rename_i hpq;subst hpq;cases e.den C<;>rfl
     · simp only[CE.den,IE.den];cases e.den C<;>rfl
   · cases h
 · cases h
   simp only[CE.den,Qp];cases e.den C<;>rfl
 · cases h
   split
   · rename_i hpq;subst hpq;cases e.den C<;>rfl
   · simp only[CE.den,SE.den];cases e.den C<;>rfl
 · split at h
   · rename_i hpq;cases h;subst hpq;cases e.den C<;>rfl
   · cases h
theorem Ux {e:BE}:∀ {x y z:List CE},Xa e x y=some z→z.map (CE.den C ρ)=bif e.den C then x.map (CE.den C ρ) else y.map (CE.den C ρ):=by
 intro x
 induction x with
 | nil=>
   intro y z h
   cases y with
   | nil=>cases h;cases e.den C<;>rfl
   | cons _ _=>cases h
 | cons p ps ih=>
   intro y z h
   cases y with
   | nil=>cases h
   | cons q qs=>
     rw[Xa] at h
     split at h
     · rename_i u us hu hus
       cases h
       have h1:=Jc (C:=C) (ρ:=ρ) hu
       have h2:=ih hus
       rw[List.map_cons,h1,h2]
       cases e.den C<;>rfl
     · cases h
theorem Xb {e:BE} {x y z:PE} (h:phi e x y=some z):z.den C ρ=bif e.den C then x.den C ρ else y.den C ρ:=by
 unfold phi at h
 split at h
 · simp only[Option.map_eq_some_iff] at h
   obtain⟨u,hu,rfl⟩:=h
   exact Jc hu
 · simp only[Option.map_eq_some_iff] at h
   obtain⟨u,hu,rfl⟩:=h
   have:=Ux (C:=C) (ρ:=ρ) hu
   simp only[PE.den,this]
   cases e.den C<;>rfl
 · cases h
theorem uK (R:Rep B h0 w0 ρ st C a w):∀ (l pre:Gs) (g:BE),dA pre a.tmps→oI st pre l=some g→(g.den C=true↔dA l a.tmps):=by
 intro l
 induction l with
 | nil=>intro pre g _ h;cases h;simp[BE.den,aK]
 | cons x r ih=>
   obtain⟨s,v⟩:=x
   intro pre g hp h
   rw[oI] at h
   split at h
   · rename_i e g' he hg'
     cases h
     rw[uX,Bool.and_eq_true,WP,show (s,v)::r=[(s,v)]++r from rfl,kF,jy,nT R hp he]
     constructor
     · rintro⟨h1,h2⟩
       have hc:dA [(s,v)] a.tmps:=by rw[jy,nT R hp he,h1]
       exact⟨by rw[h1],(ih _ _ (kF.2 ⟨hp,hc⟩) hg').1 h2⟩
     · rintro⟨h1,h2⟩
       have h1':e.den C=v:=by injection h1
       have hc:dA [(s,v)] a.tmps:=by rw[jy,nT R hp he,h1']
       exact⟨h1',(ih _ _ (kF.2 ⟨hp,hc⟩) hg').2 h2⟩
   · cases h
theorem getD_some {t:Array Value} {s:Nat} {v:Value} (h:t.getD s undef=v) (hv:v≠undef):t[s]? = some v:=by
 rw[Array.getD_eq_getD_getElem?] at h
 cases e:t[s]? with
 | none=>rw[e] at h;exact absurd h.symm hv
 | some u=>rw[e] at h;rw[← h];rfl
theorem AL {ops:Array Oper} {t:Array Value} {j s:Nat} (hs:(ops[j]?).bind (·.dst)=some s) {b:Bool} (h:t.getD s undef=.bool b):yielded ops t j=some b:=by
 unfold yielded
 rw[hs]
 show (match t[s]? with | some (.bool b)=>some b | _=>none)=_
 rw[getD_some h (by simp[undef])]
theorem Bh {ops:Array Oper} {t:Array Value} {j s:Nat} (hs:(ops[j]?).bind (·.dst)=some s) (h:t.getD s undef=undef):yielded ops t j=none:=by
 unfold yielded
 rw[hs]
 show (match t[s]? with | some (.bool b)=>some b | _=>none)=_
 rw[Array.getD_eq_getD_getElem?] at h
 cases e:t[s]? with
 | none=>rfl
 | some u=>rw[e] at h;have:u=undef:=h;rw[this];rfl
theorem iG (R:Rep B h0 w0 ρ st C a w) {ops:Array Oper} {o:Oper} {gs:Gs} (h:guardOf st ops o=some gs):Region.wanted o (yielded ops a.tmps)=true↔dA gs a.tmps:=by
 unfold guardOf at h
 unfold Region.wanted
 cases hgu:o.guard with
 | none=>rw[hgu] at h;cases h;simp[aK]
 | some jw=>
   obtain⟨j,want⟩:=jw
   rw[hgu] at h
   simp only at h⊢
   split at h
   · rename_i s hs
     split at h
     · rename_i e he
       cases h
       have hv:=R.slots s _ he
       simp only[VE.holds,PE.den,CE.den] at hv
       rw[AL hs hv,jy,hv]
       simp
     · rename_i hs' e he
       cases h
       have hv:=R.slots s _ he
       simp only[VE.holds,PE.den,CE.den] at hv
       rw[kF,jy]
       by_cases hc:dA hs' a.tmps
       · have:=hv.1 hc
         rw[AL hs this,this]
         simp[hc]
       · have:=hv.2 hc
         rw[Bh hs this]
         simp[hc]
     · cases h
   · cases h
theorem getD_set_ne {t:Array Value} {d i:Nat} {u:Value} (h:d≠i):(t.setIfInBounds d u).getD i undef=t.getD i undef:=by
 simp only[Array.getD_eq_getD_getElem?,Array.getElem?_setIfInBounds_ne h]
theorem lL {t:Array Value} {d:Nat} {u:Value} (h:d<t.size):(t.setIfInBounds d u).getD d undef=u:=by
 simp[Array.getD_eq_getD_getElem?,h]
theorem pV {v:VE} {d:Nat} {t:Array Value} {u x:Value} (hn:v.names d=false) (h:v.holds C ρ t u):v.holds C ρ (t.setIfInBounds d x) u:=by
 cases v with
 | dead=>trivial
 | p _=>exact h
 | tup _=>exact h
 | wg gs y=>
   have e:(∀ g∈gs,(t.setIfInBounds d x).getD g.1 undef=.bool g.2)↔(∀ g∈gs,t.getD g.1 undef=.bool g.2):=by
    refine forall_congr' fun g=>?_
    refine forall_congr' fun hg=>?_
    have hne:d≠g.1:=by
     intro hd
     simp only[VE.names,List.any_eq_false] at hn
     exact absurd (by simp[hd]) (hn g hg)
    rw[getD_set_ne hne]
   exact⟨fun hc=>h.1 (e.1 hc),fun hc=>h.2 (fun k=>hc (e.2 k))⟩
theorem xA (R:Rep B h0 w0 ρ st C a w) (d:Nat) (v:VE) (u:Value) (h:v.names d=false→v.holds C ρ a.tmps u):Rep B h0 w0 ρ (st.put d v) C (a.put (some d) u) w:=by
 have hsz:=R.size
 refine⟨R.defers,by simp[St.put,Act.put,hsz],?_,R.blocks,R.fresh,R.inj,R.free,R.holds,R.fr,R.base,R.ci,R.cb,R.cs,R.cv,R.cl,R.cp,R.ones⟩
 intro i v' hi
 simp only[St.put,Act.put] at hi⊢
 by_cases hd:d=i
 · subst hd
   rw[List.getElem?_set_self'] at hi
   cases hh:(st.t.map fun u=>if u.names d then VE.dead else u)[d]? with
   | none=>rw[hh] at hi;cases hi
   | some y=>
     rw[hh] at hi
     have hlt:d<a.tmps.size:=by
      rw[hsz]
      have:=(List.getElem?_eq_some_iff.1 hh).1
      simpa using this
     have hv:(if v.names d=true then VE.dead else v)=v':=by simpa using hi
     rw[lL hlt,← hv]
     split
     · trivial
     · rename_i hn
       have hn':v.names d=false:=by simpa using hn
       exact pV hn' (h hn')
 · rw[List.getElem?_set_ne hd,List.getElem?_map] at hi
   cases hh:st.t[i]? with
   | none=>rw[hh] at hi;cases hi
   | some y=>
     rw[hh] at hi
     have hv:(if y.names d=true then VE.dead else y)=v':=by simpa using hi
     rw[getD_set_ne hd,← hv]
     split
     · trivial
     · rename_i hn
       exact pV (by simpa using hn) (R.slots i y hh)
theorem dh (R:Rep B h0 w0 ρ st C a w) (d:Option Nat) (v:VE) (u:Value) (h:v.holds C ρ a.tmps u):Rep B h0 w0 ρ (st.lF d v) C (a.put d u) w:=by
 cases d with
 | none=>exact R
 | some d=>exact xA R d v u (fun _=>h)
theorem jq {gs:Gs} {v:PE} {t:Array Value} {u:Value} (hg:dA gs t) (h:u=v.den C ρ):(jg gs v).holds C ρ t u:=by
 unfold jg
 split
 · exact h
 · exact⟨fun _=>h,fun hc=>absurd hg hc⟩
theorem jJ {gs:Gs} {v:PE} {t:Array Value} (hg:¬ dA gs t):(jg gs v).holds C ρ t undef:=by
 unfold jg
 split
 · rename_i h;subst h;exact absurd (aK t) hg
 · exact⟨fun hc=>absurd hc hg,fun _=>rfl⟩
end
end Go.Proofs.YtgpanefhaiohnaaGreatDoor
namespace Go.Proofs.YtgpanefhaiohnaaGreatDoor
open Go.RowKit
section
variable {P:Program} {C:Ctx} {ρ:Nat→Nat} {w:World}
theorem ja (t:TypeId) {d:TypeDesc} (h:P.underlying t=some d):(isAgg t).run P w=.ok (fZ P t) w:=by
 unfold isAgg fZ
 rw[h]
 cases d<;>simp[run_underlying h]
theorem bf {t:TypeId} {n:Nat} (h:bU P t=some n):(sizeOf t).run P w=.ok n w:=by
 unfold bU at h
 simp only[Option.map_eq_some_iff] at h
 obtain⟨i,hi,rfl⟩:=h
 simp[sizeOf,typeInfo,hi]
theorem Ql {e:IE} (h:(Lh e).den C=true):IntKind.i64.wrap (e.den C)=e.den C:=by
 simp only[Lh,BE.den,IE.den,Bool.and_eq_true,bn] at h
 exact IntWalk.i64_in _ h
theorem pG {nw:iy} {k:IntKind} {e:IE} {c:BE} {v:PE} (h:arith nw k e=(c,v)) (hc:c.den C=true):v.den C ρ=.int k (k.wrap (e.den C)):=by
 unfold arith at h
 split at h
 · rename_i hk
   simp only[Bool.and_eq_true,beq_iff_eq] at hk
   obtain⟨_,rfl⟩:=hk
   cases h
   show Value.int .i64 (e.den C)=_
   rw[Ql hc]
 · cases h;rfl
theorem Hg (op:BinOp) (t:TypeId) (x y:Operand) (k k':IntKind) (a b:Int):(eqGuard op t x y (.int k a) (.int k' b)).run P w=.ok () w:=by
 unfold eqGuard;cases op<;>rfl
theorem Eu (op:BinOp) (t:TypeId) (x y:Operand) (a b:Bool):(eqGuard op t x y (.bool a) (.bool b)).run P w=.ok () w:=by
 unfold eqGuard;cases op<;>rfl
theorem kS (op:BinOp) (t:TypeId) (x y:Operand) (a b:ByteArray):(eqGuard op t x y (.string a) (.string b)).run P w=.ok () w:=by
 unfold eqGuard;cases op<;>rfl
theorem Iu {nw:iy} {op:BinOp} {t:TypeId} {k:IntKind} {a b:IE} {c:BE} {v:PE} (hsl:op≠.shl) (hsr:op≠.shr) (h:TQ nw op k a b=some (c,v)) (hc:c.den C=true):
 (binOp op t (.int k (a.den C)) (.int k (b.den C))).run P w=.ok (v.den C ρ) w:=by
 cases op<;>simp only[TQ,Option.some.injEq,reduceCtorEq] at h<;>simp only[binOp,ne_eq,not_true_eq_false,if_false]
 case add=>rw[pG h hc];rfl
 case sub=>rw[pG h hc];rfl
 case mul=>rw[pG h hc];rfl
 case quo=>
  cases h
  have hb:b.den C≠0:=by simpa[BE.den,IE.den,bG,bn] using hc
  simp[Op.intDiv,hb,PE.den,CE.den,IE.den]
 case rem=>
  cases h
  have hb:b.den C≠0:=by simpa[BE.den,IE.den,bG,bn] using hc
  simp[Op.intDiv,hb,PE.den,CE.den,IE.den]
 all_goals first
  | exact absurd rfl hsl
  | exact absurd rfl hsr
  | (cases h;simp[Op.intBits,Op.intCmp,PE.den,CE.den,IE.den,BE.den,TM,bne,JU,leB])
theorem wU {op:BinOp} {a b:SE} {c:BE} {v:PE} {t:TypeId} (h:O7 op a b=some (c,v)) (hc:c.den C=true):
 (binOp op t (.string (B (a.den C))) (.string (B (b.den C)))).run P w=.ok (v.den C ρ) w:=by
 have hb:binOp op t (.string (B (a.den C))) (.string (B (b.den C)))=Op.stringOp op (B (a.den C)) (B (b.den C)):=by
  cases op<;>rfl
 rw[hb]
 cases op<;>simp only[O7,Option.some.injEq,reduceCtorEq] at h
 case add=>
  cases h
  rw[DX _ _ (by simp only[BE.den,IE.den,bn] at hc;omega)]
  rfl
 all_goals (cases h;simp[Op.stringOp,fQ,PE.den,CE.den,BE.den])
theorem NW {t:TypeId} (hu:P.underlying t=some .bool) (x y:Bool):(Op.equal t (.bool x) (.bool y)).run P w=.ok (x==y) w:=by
 unfold Op.equal Op.maxDepth
 rw[show (10000:Nat)=9999+1 from rfl,Op.equalIn,Sem.run_bind,run_underlying hu]
 rfl
theorem AZ (op:BinOp) (t:TypeId) (x y:Operand) (a b:bg):(eqGuard op t x y a.val b.val).run P w=.ok () w:=by
 unfold eqGuard;cases op<;>rfl
theorem jA (op:BinOp) (t:TypeId) (x y:Operand) (a b:Option Addr):(eqGuard op t x y (.pointer a) (.pointer b)).run P w=.ok () w:=by
 unfold eqGuard;cases op<;>rfl
theorem Ew {t e:TypeId} (hu:P.underlying t=some (.slice e)) (s:bg):(Op.equal t s.val (LE.nil.den C).val).run P w=.ok (!s.a.isSome) w:=by
 unfold Op.equal Op.maxDepth
 rw[show (10000:Nat)=9999+1 from rfl,Op.equalIn,Sem.run_bind,run_underlying hu]
 cases s with
 | mk a n c=>cases a<;>rfl
theorem kG {t e:TypeId} (hu:P.underlying t=some (.pointer e)) (a:Option Addr):(Op.equal t (.pointer a) (.pointer none)).run P w=.ok (!a.isSome) w:=by
 unfold Op.equal Op.maxDepth
 rw[show (10000:Nat)=9999+1 from rfl,Op.equalIn,Sem.run_bind,run_underlying hu]
 cases a<;>rfl
theorem oL {op:BinOp} {t:TypeId} {x y:Value} {e:BE} {c:BE} {v:PE} (h:IV op e=some (c,v)) (he:(Op.equal t x y).run P w=.ok (!e.den C) w)
 (hx:∀ op,(op=.eql→binOp op t x y=do pure (Value.bool (← Op.equal t x y)))∧(op=.neq→binOp op t x y=do pure (Value.bool (!(← Op.equal t x y))))):(binOp op t x y).run P w=.ok (v.den C ρ) w:=by
 unfold IV at h
 split at h
 · cases h
   rw[(hx .eql).1 rfl,Sem.run_bind,he]
   simp[PE.den,CE.den,mO]
 · cases h
   rw[(hx .neq).2 rfl,Sem.run_bind,he]
   simp[PE.den,CE.den]
 · cases h
theorem kw (l:List CE) (i:Nat):((l.map (CE.den C ρ)).toArray)[i]? = (l[i]?).map (CE.den C ρ):=by
 simp
theorem We {d:Nat} {t:TypeId} {x y:CE} {e:BE} (h:eqC P t x y=some e):(P.underlying t≠none)∧(Op.equalIn (d+1) t (x.den C ρ) (y.den C ρ)).run P w=.ok (e.den C) w:=by
 unfold eqC at h
 split at h
 · split at h
   · rename_i hu
     split at h
     · rename_i hk
       subst hk
       cases h
       exact⟨by rw[hu];simp,run_equalIn_int w d t _ _ _ _ hu⟩
     · cases h
   · cases h
 · split at h
   · rename_i hu
     cases h
     exact⟨by rw[hu];simp,run_equalIn_bool' w d t _ _ hu⟩
   · cases h
 · split at h
   · rename_i hu
     cases h
     refine⟨by rw[hu];simp,?_⟩
     show (Op.equalIn (d+1) t (.string (B _)) (.string (B _))).run P w=_
     rw[run_equalIn_string w d t _ _ hu,fQ,fQ]
     rfl
   · cases h
 · cases h
theorem Jb {t:TypeId} {l:List CE} {off:Nat} {x:CE} (hu:P.underlying t≠none) (ha:fZ P t=false) (h:l[off]? = some x):(part t (l.map (CE.den C ρ)).toArray off).run P w=.ok (x.den C ρ) w:=by
 obtain⟨d,hd⟩:=Option.ne_none_iff_exists'.1 hu
 unfold part
 rw[Sem.run_bind,ja t hd,Result.andThen_ok,if_neg (by rw[ha];decide),kw,h]
 rfl
theorem SH {d:Nat} {xs ys:List CE}:∀ {fs:List Field} {e:BE},Wh P xs ys fs=some e→(Op.eqFields (d+1) (xs.map (CE.den C ρ)).toArray (ys.map (CE.den C ρ)).toArray fs).run P w=.ok (e.den C) w:=by
 intro fs
 induction fs with
 | nil=>intro e h;cases h;rfl
 | cons f fs ih=>
   intro e h
   rw[Wh] at h
   split at h
   · cases h
   · rename_i hn
     split at h
     · rename_i x y hx hy
       split at h
       · rename_i e1 r h1 h2
         cases h
         have hne : f.name ≠ "_" := fun hh => hn (.inl hh)
         have hag:fZ P f.type=false:=by
          cases hq:fZ P f.type
          · rfl
          · exact absurd (.inr hq) hn
         obtain⟨hu,hrun⟩:=We (C:=C) (ρ:=ρ) (w:=w) (d:=d) h1
         rw[Op.eqFields,if_pos hne,Sem.run_bind,Jb hu hag hx,Result.andThen_ok,Sem.run_bind,Jb hu hag hy,Result.andThen_ok,Sem.run_bind,hrun,Result.andThen_ok,uX]
         cases e1.den C
         · rfl
         · simp only[Bool.not_true,Bool.false_eq_true,if_false,Bool.true_and]
           exact ih h2
       · cases h
     · cases h
theorem BJ {t:TypeId} {xs ys:List CE} {e:BE} (h:NV P t xs ys=some e):(∀ op x y,(eqGuard op t x y (.agg (xs.map (CE.den C ρ)).toArray) (.agg (ys.map (CE.den C ρ)).toArray)).run P w=.ok () w)∧
 (Op.equalIn 10000 t (.agg (xs.map (CE.den C ρ)).toArray) (.agg (ys.map (CE.den C ρ)).toArray)).run P w=.ok (e.den C) w:=by
 unfold NV at h
 split at h
 · cases h
 · rename_i hn
   have h1:P.stoodInHeld t=false:=by
    cases hq:P.stoodInHeld t
    · rfl
    · exact absurd (.inl hq) hn
   have h2:P.eqGuardType P.depth t=false:=by
    cases hq:P.eqGuardType P.depth t
    · rfl
    · exact absurd (.inr hq) hn
   refine⟨fun op x y=>run_eqGuard_agg w op t x y _ _ h2,?_⟩
   split at h
   · rename_i fs hu
     have hf:P.fieldsOf t=fs:=by unfold Program.fieldsOf;rw[hu]
     rw[show (10000:Nat)=9999+1 from rfl,run_equalIn_struct w 9999 t _ _ (by rw[hf];exact hu) h1,hf]
     exact SH (d:=9998) h
   · cases h
theorem xW {nw:iy} {op:BinOp} {t:TypeId} {x y:Operand} {p q:PE} {c:BE} {v:PE} (h:VU nw P op t p q=some (c,v)) (hc:c.den C=true):
 (eqGuard op t x y (p.den C ρ) (q.den C ρ)).run P w=.ok () w∧(binOp op t (p.den C ρ) (q.den C ρ)).run P w=.ok (v.den C ρ) w:=by
 unfold VU at h
 split at h
 · rename_i k a k' b
   refine⟨Hg ..,?_⟩
   split at h
   · cases h
     have hb:¬ b.den C<0:=by
      have:0≤b.den C:=by simpa[BE.den,IE.den,bG,bn] using hc
      omega
     simp[PE.den,CE.den,binOp,Op.shift,hb,IE.den,Lp]
   · cases h
     have hb:¬ b.den C<0:=by
      have:0≤b.den C:=by simpa[BE.den,IE.den,bG,bn] using hc
      omega
     simp[PE.den,CE.den,binOp,Op.shift,hb,IE.den,Lp]
   · rename_i hsl hsr
     split at h
     · rename_i hk
       subst hk
       exact Iu (fun e=>by subst e;exact hsl rfl) (fun e=>by subst e;exact hsr rfl) h hc
     · cases h
 · exact⟨kS ..,wU h hc⟩
 · rename_i a b
   refine⟨Eu ..,?_⟩
   split at h
   · rename_i hu
     cases h
     show (do pure (Value.bool (← Op.equal t (.bool (a.den C)) (.bool (b.den C))))).run P w=_
     rw[Sem.run_bind,NW hu];rfl
   · rename_i hu
     cases h
     show (do pure (Value.bool (!(← Op.equal t (.bool (a.den C)) (.bool (b.den C)))))).run P w=_
     rw[Sem.run_bind,NW hu];rfl
   · cases h
 · rename_i l
   refine⟨AZ ..,?_⟩
   split at h
   · rename_i e hu
     refine oL h (Ew hu _) (fun op=>⟨fun h=>?_,fun h=>?_⟩)<;>(subst h;rfl)
   · cases h
 · rename_i n
   refine⟨jA ..,?_⟩
   split at h
   · rename_i e hu
     refine oL h ?_ (fun op=>⟨fun h=>?_,fun h=>?_⟩)
     · have:=kG (w:=w) hu ((C.p.getD n none).map fun x=>(⟨x.1,x.2,none⟩:Addr))
       rw[Option.isSome_map] at this
       exact this
     · subst h;rfl
     · subst h;rfl
   · cases h
 · rename_i k o
   refine⟨jA ..,?_⟩
   split at h
   · rename_i e hu
     refine oL h (kG hu _) (fun op=>⟨fun h=>?_,fun h=>?_⟩)<;>(subst h;rfl)
   · cases h
 · rename_i xs ys
   split at h
   · simp only[Option.map_eq_some_iff,Prod.mk.injEq] at h
     obtain⟨e,he,-,rfl⟩:=h
     obtain⟨h1,h2⟩:=BJ (C:=C) (ρ:=ρ) (w:=w) he
     refine⟨h1 _ _ _,?_⟩
     show (binOp .eql t (.agg _) (.agg _)).run P w=_
     rw[run_eql_struct,h2]
     rfl
   · simp only[Option.map_eq_some_iff,Prod.mk.injEq] at h
     obtain⟨e,he,-,rfl⟩:=h
     obtain⟨h1,h2⟩:=BJ (C:=C) (ρ:=ρ) (w:=w) he
     refine⟨h1 _ _ _,?_⟩
     show (binOp .neq t (.agg _) (.agg _)).run P w=_
     rw[run_neq_struct,h2]
     simp[PE.den,CE.den,mO]
   · cases h
 · cases h
theorem D7 {nw:iy} {op:UnOp} {p:PE} {c:BE} {v:PE} (h:unE nw op p=some (c,v)) (hc:c.den C=true):(Op.unary op (p.den C ρ)).run P w=.ok (v.den C ρ) w:=by
 unfold unE at h
 split at h
 · split at h
   · cases h
     simp[PE.den,CE.den,Op.unary,mO]
   · cases h
 · split at h
   · simp only[Option.some.injEq] at h
     rw[pG h hc]
     simp[PE.den,CE.den,Op.unary,Op.intArith,IE.den]
   · cases h
     simp[PE.den,CE.den,Op.unary,Op.intBits,IE.den,TM]
   · cases h
 · cases h
theorem oC {s d:TypeId} {p:PE} {c:BE} {v:PE} (h:GI P s d p=some (c,v)):(convert s d (p.den C ρ)).run P w=.ok (v.den C ρ) w:=by
 unfold GI at h
 split at h
 · split at h
   · rename_i h1 h2
     cases h
     simp[PE.den,CE.den,convert,run_underlying h1,run_underlying h2,Conv.intToInt,IE.den]
   · cases h
 · split at h
   · rename_i h1 h2
     cases h
     simp[PE.den,CE.den,convert,run_underlying h1,run_underlying h2]
   · cases h
 · cases h
theorem uN {k:IntKind}:∀ {cs:List CE} {ys:List IE},Ou k cs=some ys→cs.map (CE.den C ρ)=ys.map fun y=>.int k (y.den C)
 | [],ys,h=>by cases h;rfl
 | c::cs,ys,h=>by
   unfold Ou at h
   split at h
   · rename_i h0;cases h0
   · rename_i k' e cs' he
     cases he
     split at h
     · rename_i hk
       subst hk
       simp only[Option.map_eq_some_iff] at h
       obtain⟨zs,hz,rfl⟩:=h
       rw[List.map_cons,List.map_cons,uN hz]
       rfl
     · cases h
   · cases h
theorem IZ {i:IE}:∀ (xs:List IE) (n:Int) (m:Nat),i.den C=n+m→(hm:m<xs.length)→(WW i xs n).den C=(xs[m]).den C
 | [],_,_,_,hm=>by cases hm
 | x::xs,n,m,hi,hm=>by
   unfold WW
   split
   · rename_i he
     have:xs=[]:=by simpa using he
     subst this
     have:m=0:=by simpa using hm
     subst this
     rfl
   · rename_i he
     cases m with
     | zero=>
       have:i.den C=n:=by omega
       simp[IE.den,BE.den,this]
     | succ m=>
       have h2:¬ i.den C=n:=by omega
       have ih:=IZ xs (n+1) m (show i.den C=n+1+(m:Int) by omega) (by simpa using hm)
       simp only[IE.den,BE.den,beq_eq_false_iff_ne.2 h2,cond_false]
       exact ih
theorem EM {t:TypeId} {p q:PE} {c:BE} {v:PE} (h:Lj P t p q=some (c,v)) (hc:c.den C=true):(Instr.index t (p.den C ρ) (q.den C ρ)).run P w=.ok (v.den C ρ) w:=by
 unfold Lj at h
 split at h
 · rename_i s k i
   split at h
   · rename_i hu
     cases h
     simp only[BE.den,IE.den,Bool.and_eq_true,bG,bn] at hc
     obtain⟨h0,h1⟩:=hc
     have hlt:(i.den C).toNat<(B (s.den C)).size:=by rw[dJ];omega
     have hget:(B (s.den C))[(i.den C).toNat]? = some ((B (s.den C))[(i.den C).toNat]'hlt):=by
      rw[getElem?_pos]
     simp[PE.den,CE.den,Instr.index,asIntOf,run_underlying hu,h0,hget,IE.den,oz]
   · cases h
 · rename_i x y k i
   split at h
   · rename_i n e hu
     split at h
     · rename_i d hd hn
       split at h
       · rename_i hck
         obtain⟨rfl,hagg⟩:=hck
         cases h
         simp only[BE.den,IE.den,Bool.and_eq_true,bG,bn] at hc
         obtain⟨h0,h1⟩:=hc
         have hpart:∀ m,m<2→(part e #[.string (B (x.den C)),.string (B (y.den C))] (m*1)).run P w=.ok (if m=0 then .string (B (x.den C)) else .string (B (y.den C))) w:=by
          intro m hm
          unfold part
          rw[Sem.run_bind,ja e hd,Result.andThen_ok,hagg]
          have:m=0∨m=1:=by omega
          rcases this with rfl | rfl<;>simp
         have e:(i.den C).toNat=0∨(i.den C).toNat=1:=by omega
         simp only[PE.den,List.map_cons,List.map_nil,CE.den,Instr.index,asIntOf,Sem.run_bind,run_underlying hu,Result.andThen_ok,Sem.run_pure]
         rw[if_pos ⟨h0,h1⟩,Sem.run_bind,bf hn,Result.andThen_ok,hpart _ (by omega)]
         simp only[SE.den,BE.den,IE.den]
         rcases e with e | e
         · have:i.den C=0:=by omega
           simp[this]
         · have:i.den C=1:=by omega
           simp[this]
       · cases h
     · cases h
   · cases h
 · rename_i k0 x xs k i
   split at h
   · rename_i n e hu
     split at h
     · rename_i d ys hd hn hys
       split at h
       · rename_i hck
         obtain⟨hlen,hagg⟩:=hck
         cases h
         simp only[BE.den,IE.den,Bool.and_eq_true,bG,bn] at hc
         obtain⟨h0,h1⟩:=hc
         have hl:(x::ys).length=n:=by
          have:=congrArg List.length (uN (C:=C) (ρ:=ρ) hys)
          simp at this
          simp[hlen,this]
         have hm:(i.den C).toNat<(x::ys).length:=by omega
         have hcells:(CE.i k0 x::xs).map (CE.den C ρ)=(x::ys).map fun y=>Value.int k0 (y.den C):=by
          rw[List.map_cons,List.map_cons,uN hys];rfl
         have hpart:(part e ((CE.i k0 x::xs).map (CE.den C ρ)).toArray ((i.den C).toNat*1)).run P w=.ok (.int k0 (((x::ys)[(i.den C).toNat]).den C)) w:=by
          unfold part
          rw[Sem.run_bind,ja e hd,Result.andThen_ok,hagg,hcells]
          simp only[Bool.false_eq_true,if_false,Nat.mul_one,List.getElem?_toArray,List.getElem?_map,List.getElem?_eq_getElem hm,Option.map_some,Sem.run_pure]
         simp only[PE.den,CE.den,Instr.index,asIntOf,Sem.run_bind,run_underlying hu,Result.andThen_ok,Sem.run_pure]
         rw[if_pos ⟨h0,h1⟩,Sem.run_bind,bf hn,Result.andThen_ok]
         have hp2:=hpart
         rw[← IZ (C:=C) (i:=i) (x::ys) 0 (i.den C).toNat (by omega) hm] at hp2
         exact hp2
       · cases h
     · cases h
   · cases h
 · cases h
theorem FU {t:TypeId} {x:PE} {lo hi:Option PE} {c:BE} {v:PE} (h:MZ P t x lo hi=some (c,v)) (hc:c.den C=true):
 (Instr.sliceAt t (x.den C ρ) (lo.map (PE.den C ρ)) (hi.map (PE.den C ρ)) none).run P w=.ok (v.den C ρ) w:=by
 unfold MZ at h
 split at h
 · rename_i l e hu
   split at h
   · rename_i lo' c' hi' n hl hh hn
     cases h
     simp only[BE.den,Bool.and_eq_true,bn,IE.den] at hc
     obtain⟨hcc,h1,h2⟩:=hc
     have hbounds:(Instr.sliceBounds true (l.den C).n (l.den C).c (lo.map (PE.den C ρ)) (hi.map (PE.den C ρ)) none).run P w=.ok ((lo'.den C).toNat,(hi'.den C).toNat,(l.den C).c) w:=by
      have hhi:(match hi.map (PE.den C ρ) with | some v=>Instr.sliceBound v (l.den C).c .sliceAcap | none=>pure (l.den C).n).run P w=.ok (hi'.den C).toNat w:=by
       cases hi with
       | none=>
         simp only[hiE,Option.some.injEq,Prod.mk.injEq] at hh
         obtain⟨rfl,rfl⟩:=hh
         simp[IE.den]
       | some q=>
         unfold hiE at hh
         split at hh
         · rename_i hq;cases hq
         · rename_i k x hq
           cases hq
           cases hh
           simp only[BE.den,Bool.and_eq_true,bn,IE.den] at hcc
           simp[PE.den,CE.den,Instr.sliceBound,asIntOf,hcc.1,hcc.2]
         · cases hh
      have hlo:(match lo.map (PE.den C ρ) with | some v=>Instr.sliceBound v (hi'.den C).toNat .sliceB | none=>pure 0).run P w=.ok (lo'.den C).toNat w:=by
       cases lo with
       | none=>
         simp only[loE,Option.some.injEq] at hl
         subst hl
         simp[IE.den]
       | some q=>
         unfold loE at hl
         split at hl
         · rename_i hq;cases hq
         · rename_i k x hq
           cases hq
           cases hl
           have h3:lo'.den C≤(((hi'.den C).toNat:Nat):Int):=by omega
           simp[PE.den,CE.den,Instr.sliceBound,asIntOf,h1]
           intro hx
           omega
         · cases hl
      unfold Instr.sliceBounds
      simp only[Sem.run_bind,Sem.run_pure,Result.andThen_ok,if_true,Option.isSome_none,Bool.false_eq_true,if_false]
      cases hi with
      | none=>
        simp only[Option.map_none] at hhi⊢
        rw[Sem.run_bind,hhi,Result.andThen_ok]
        cases lo with
        | none=>simp only[Option.map_none] at hlo ⊢;rw[Sem.run_bind,hlo];rfl
        | some q=>simp only[Option.map_some] at hlo ⊢;rw[Sem.run_bind,hlo];rfl
      | some q'=>
        simp only[Option.map_some] at hhi⊢
        rw[Sem.run_bind,hhi,Result.andThen_ok]
        cases lo with
        | none=>simp only[Option.map_none] at hlo ⊢;rw[Sem.run_bind,hlo];rfl
        | some q=>simp only[Option.map_some] at hlo ⊢;rw[Sem.run_bind,hlo];rfl
     show (Instr.sliceAt t (l.den C).val _ _ none).run P w=_
     unfold Instr.sliceAt
     rw[Sem.run_bind,run_underlying hu,Result.andThen_ok]
     simp only[bg.val]
     unfold Instr.slice
     rw[Sem.run_bind,run_underlying hu,Result.andThen_ok]
     simp only[Sem.run_bind,hbounds,Result.andThen_ok,bf hn,Sem.run_pure]
     simp only[PE.den,CE.den,LE.den,bg.val]
     congr 2
     by_cases he:(l.den C).c=(lo'.den C).toNat
     · simp[he]
     · simp only[he,if_false]
       cases (l.den C).a with
       | none=>rfl
       | some x=>
         simp only[Option.map_some]
         congr 1
         unfold Addr.add
         split
         · rename_i h0;rw[h0];rfl
         · rfl
   · cases h
 · rename_i a hu
   split at h
   · cases h
     simp[PE.den,CE.den,Instr.sliceAt,Instr.slice,Instr.sliceBounds,run_underlying hu]
   · rename_i k l
     cases h
     simp only[BE.den,IE.den,Bool.and_eq_true,bn] at hc
     obtain⟨h0,h1⟩:=hc
     have h1':l.den C≤((B (a.den C)).size:Int):=by rw[dJ];exact h1
     simp[PE.den,CE.den,Instr.sliceAt,Instr.slice,Instr.sliceBounds,Instr.sliceBound,asIntOf,run_underlying hu,h0,SE.den,IE.den,fO,dJ]
     intro hx;omega
   · rename_i k hh
     cases h
     simp only[BE.den,IE.den,Bool.and_eq_true,bn] at hc
     obtain⟨h0,h1⟩:=hc
     have h1':hh.den C≤((B (a.den C)).size:Int):=by rw[dJ];exact h1
     simp[PE.den,CE.den,Instr.sliceAt,Instr.slice,Instr.sliceBounds,Instr.sliceBound,asIntOf,run_underlying hu,h0,h1',SE.den,IE.den,fO]
   · rename_i k l k' hh
     cases h
     simp only[BE.den,IE.den,Bool.and_eq_true,bn] at hc
     obtain⟨⟨h0,h1⟩,h2,h3⟩:=hc
     have h1':hh.den C≤((B (a.den C)).size:Int):=by rw[dJ];exact h1
     have h3':l.den C≤(((hh.den C).toNat:Nat):Int):=by omega
     simp[PE.den,CE.den,Instr.sliceAt,Instr.slice,Instr.sliceBounds,Instr.sliceBound,asIntOf,run_underlying hu,h0,h1',h2,SE.den,fO]
     intro hx;omega
   · cases h
 · cases h
theorem U7 {α β:Type} {f:α→Sem β} {g:α→β}:∀ {l:List α},(∀ x∈l,(f x).run P w=.ok (g x) w)→(l.mapM f).run P w=.ok (l.map g) w:=by
 intro l
 induction l with
 | nil=>intro _;rfl
 | cons x l ih=>
   intro h
   rw[List.mapM_cons,Sem.run_bind,h x (by simp),Result.andThen_ok,Sem.run_bind,ih (fun y hy=>h y (by simp[hy])),Result.andThen_ok]
   rfl
theorem uk {α β:Type} {f:α→Sem β} {g:α→β} {l:Array α} (h:∀ x∈l.toList,(f x).run P w=.ok (g x) w):(l.mapM f).run P w=.ok (l.toList.map g).toArray w:=by
 rw[Array.mapM_eq_mapM_toList]
 show (do let x ← l.toList.mapM f;pure x.toArray).run P w=_
 rw[Sem.run_bind,U7 h]
 rfl
theorem Ut {t:TypeId} {l:List CE} {off:Nat} {v:PE} (h:Us P t l off=some v):(part t (l.map (CE.den C ρ)).toArray off).run P w=.ok (v.den C ρ) w:=by
 unfold Us at h
 split at h
 · rename_i d n hd hn
   unfold part
   rw[Sem.run_bind,ja t hd,Result.andThen_ok]
   split at h
   · rename_i hagg
     cases h
     rw[if_pos hagg,Sem.run_bind,bf hn,Result.andThen_ok]
     simp[PE.den,List.map_take,List.map_drop]
   · rename_i hagg
     simp only[Option.map_eq_some_iff] at h
     obtain⟨x,hx,rfl⟩:=h
     rw[if_neg hagg,kw,hx]
     rfl
 · cases h
theorem sJ (ho:dZ C.v) (place:Nat→Option (Nat×Nat)) (parts:List (Nat×PE)):∀ (cells out:List CE),yC place cells parts=some out→
 Instr.fill place (cells.map (CE.den C ρ)).toArray (parts.map fun x=>(x.1,x.2.den C ρ))=some (out.map (CE.den C ρ)).toArray:=by
 induction parts with
 | nil=>intro cells out h;cases h;rfl
 | cons x rest ih=>
   obtain⟨i,v⟩:=x
   intro cells out h
   rw[yC] at h
   rw[List.map_cons,Instr.fill]
   split at h
   · rename_i off size hp
     split at h
     · rename_i hc
       obtain⟨h1,h2⟩:=hc
       have hcells:=kZ ho ρ v
       simp only[hp,hcells]
       have hsz:(v.cells.map (CE.den C ρ)).toArray.size=size:=by simpa using h1
       rw[if_neg (by rw[hsz];simp;omega)]
       have hfold:∀ (l:List (CE×Nat)) (cs:List CE),(l.map fun x=>(x.1.den C ρ,x.2)).foldl (fun (cs:Array Value) (x:Value×Nat)=>cs.setIfInBounds (off+x.2) x.1) (cs.map (CE.den C ρ)).toArray=((l.foldl (fun cs x=>cs.set (off+x.2) x.1) cs).map (CE.den C ρ)).toArray:=by
        intro l
        induction l with
        | nil=>intro cs;rfl
        | cons y l ih2=>
          intro cs
          simp only[List.map_cons,List.foldl_cons]
          rw[← ih2]
          congr 1
          simp[List.map_set]
       have hz:(v.cells.map (CE.den C ρ)).toArray.zipIdx.toList=v.cells.zipIdx.map fun x=>(x.1.den C ρ,x.2):=by
        simp[List.zipIdx_map]
       rw[← Array.foldl_toList,hz,hfold]
       exact ih _ _ h
     · cases h
   · cases h
theorem Pz (ho:dZ C.v) {t:TypeId} {parts:List (Nat×PE)} {ps:Array (Nat×Value)} (hps:ps.toList=parts.map fun x=>(x.1,x.2.den C ρ)) {v:PE} (h:J6 P t parts=some v):(Instr.build t ps).run P w=.ok (v.den C ρ) w:=by
 unfold J6 at h
 split at h
 · rename_i fs z hu hz
   split at h
   · rename_i hall
     simp only[Option.map_eq_some_iff] at h
     obtain⟨out,hout,rfl⟩:=h
     simp only[Option.bind_eq_some_iff] at hz
     obtain⟨zs,hzs,hz⟩:=hz
     unfold jS at hzs
     simp only[Option.map_eq_some_iff,Option.bind_eq_some_iff] at hzs
     obtain⟨zv,⟨inf,hinf,hzv⟩,rfl⟩:=hzs
     have hzero:(zeroValue t).run P w=.ok zv w:=by simp[zeroValue,typeInfo,hinf,hzv]
     have hmap:(fs.mapM fun f=>(do pure (f.offset,← sizeOf f.type):Sem (Nat×Nat))).run P w=.ok ((fs.toList.map fun f=>(f.offset,(bU P f.type).getD 0)).toArray) w:=by
      refine uk fun f hf=>?_
      have:=List.all_eq_true.1 hall f hf
      obtain⟨n,hn⟩:=Option.isSome_iff_exists.1 this
      rw[Sem.run_bind,bf hn,hn]
      rfl
     unfold Instr.build
     rw[Sem.run_bind,hzero,Result.andThen_ok,Sem.run_bind,run_underlying hu,Result.andThen_ok]
     simp only
     rw[Sem.run_bind,hmap,Result.andThen_ok]
     have hplace:∀ i x,nM P t i=some x→((fs.toList.map fun f=>(f.offset,(bU P f.type).getD 0)).toArray)[i]? = some x:=by
      intro i x hx
      unfold nM jV at hx
      rw[hu] at hx
      simp only[Option.bind_eq_some_iff,Option.map_eq_some_iff] at hx
      obtain⟨⟨o,u⟩,⟨f,hf,he⟩,n,hn,rfl⟩:=hx
      cases he
      simp[hf,hn]
     have hcells:zv.cells=(z.map (CE.den C ρ)).toArray:=by rw[iW C ρ hz]
     have hfill:=sJ (C:=C) (ρ:=ρ) ho (nM P t) parts z out hout
     have hmono:∀ (l:List (Nat×Value)) (cs out:Array Value),Instr.fill (nM P t) cs l=some out→Instr.fill (((fs.toList.map fun f=>(f.offset,(bU P f.type).getD 0)).toArray)[·]?) cs l=some out:=by
      intro l
      induction l with
      | nil=>intro cs out h;exact h
      | cons y l ih=>
        obtain⟨i,u⟩:=y
        intro cs out h
        rw[Instr.fill] at h⊢
        cases hpl:nM P t i with
        | none=>rw[hpl] at h;cases h
        | some q=>
          rw[hpl] at h
          rw[hplace i q hpl]
          simp only at h⊢
          split at h
          · cases h
          · rename_i hn
            rw[if_neg hn]
            exact ih _ _ h
     rw[hcells,hps,hmono _ _ _ hfill]
     rfl
   · cases h
 · rename_i len e z hu hz
   split at h
   · rename_i n hn
     simp only[Option.map_eq_some_iff] at h
     obtain⟨out,hout,rfl⟩:=h
     simp only[Option.bind_eq_some_iff] at hz
     obtain⟨zs,hzs,hz⟩:=hz
     unfold jS at hzs
     simp only[Option.map_eq_some_iff,Option.bind_eq_some_iff] at hzs
     obtain⟨zv,⟨inf,hinf,hzv⟩,rfl⟩:=hzs
     have hzero:(zeroValue t).run P w=.ok zv w:=by simp[zeroValue,typeInfo,hinf,hzv]
     have hcells:zv.cells=(z.map (CE.den C ρ)).toArray:=by rw[iW C ρ hz]
     unfold Instr.build
     rw[Sem.run_bind,hzero,Result.andThen_ok,Sem.run_bind,run_underlying hu,Result.andThen_ok]
     simp only
     rw[Sem.run_bind,bf hn,Result.andThen_ok,hcells,hps,sJ (C:=C) (ρ:=ρ) ho _ parts z out hout]
     rfl
   · cases h
 · cases h
variable {B:Nat} {h0:Hp} {w0:World} {st:St} {a:Act}
theorem xX (R:Rep B h0 w0 ρ st C a w) {k:Nat} {b:ou} (h:st.m[k]? = some b) (o:Nat):w.cell? ⟨ρ k,o,none⟩=(b.cells[o]?).map (CE.den C ρ):=by
 unfold World.cell?
 rw[R.blocks k b h]
 simp
theorem yT (R:Rep B h0 w0 ρ st C a w) {t:TypeId} {p v:PE} (h:wE P st t p=some v):(Instr.loadAt t (p.den C ρ)).run P w=.ok (v.den C ρ) w:=by
 unfold wE at h
 split at h
 · rename_i k o
   split at h
   · rename_i b d n hb hd hn
     show (do loadVar t (← Instr.sureAddr (.pointer (some ⟨ρ k,o,none⟩)))).run P w=_
     rw[Sem.run_bind]
     show (loadVar t ⟨ρ k,o,none⟩).run P w=_
     unfold loadVar
     rw[Sem.run_bind,ja t hd,Result.andThen_ok]
     split at h
     · rename_i hagg
       rw[if_pos hagg,Sem.run_bind,bf hn,Result.andThen_ok]
       split at h
       · rename_i hle
         cases h
         have hl:((b.cells.drop o).take n |>.map (CE.den C ρ)).length=n:=by simp;omega
         have:=run_loadCells_list (P:=P) w ⟨ρ k,o,none⟩ ((b.cells.drop o).take n |>.map (CE.den C ρ)) (by
          intro j u hu
          have e:(⟨ρ k,o,none⟩:Addr).add j=⟨ρ k,o+j,none⟩:=by
           unfold Addr.add;split
           · rename_i h0;subst h0;rfl
           · rfl
          rw[e,xX R hb]
          rw[List.getElem?_map,List.getElem?_take] at hu
          split at hu
          · rw[List.getElem?_drop] at hu;exact hu
          · cases hu)
         rw[hl] at this
         rw[Sem.run_bind,this]
         rfl
       · cases h
     · rename_i hagg
       rw[if_neg hagg]
       simp only[Option.map_eq_some_iff] at h
       obtain⟨x,hx,rfl⟩:=h
       have hc:=xX R hb o
       rw[hx] at hc
       simp[hc,PE.den]
   · cases h
 · cases h
theorem parts_eval (R:Rep B h0 w0 ρ st C a w) {gs:Gs} (hg:dA gs a.tmps) {xs:List (Nat×Operand)}:∀ {ps:List (Nat×PE)},iU st gs xs=some ps→xs.map (fun x=>(x.1,a.eval x.2))=ps.map fun x=>(x.1,x.2.den C ρ):=by
 induction xs with
 | nil=>intro ps h;cases h;rfl
 | cons x xs ih=>
   obtain⟨i,x⟩:=x
   intro ps h
   rw[iU] at h
   split at h
   · rename_i p ps hp hps
     cases h
     rw[List.map_cons,List.map_cons,az R hg hp,ih hps]
   · cases h
theorem dM {s:Sem Value} {x:Value} (h:s.run P w=.ok x w):(do pure (Next.value (← s)):Sem Next).run P w=.ok (.value x) w:=by
 rw[Sem.run_bind,h];rfl
theorem Dy (R:Rep B h0 w0 ρ st C a w) {gs:Gs} (hg:dA gs a.tmps) {x:Option Operand} {p:Option PE} (h:L9 st gs x=some p):x.map a.eval=p.map (PE.den C ρ):=by
 cases x with
 | none=>cases h;rfl
 | some x=>
   simp only[L9,Option.map_eq_some_iff] at h
   obtain⟨q,hq,rfl⟩:=h
   simp[az R hg hq]
theorem Jn (R:Rep B h0 w0 ρ st C a w) {gs:Gs} (hg:dA gs a.tmps):∀ {xs:List Operand} {l:List Nat},MG st gs xs=some l→xs.map a.eval=l.map fun n=>Value.pointer ((C.p.getD n none).map fun x=>⟨x.1,x.2,none⟩)
 | [],l,h=>by cases h;rfl
 | x::xs,l,h=>by
   unfold MG at h
   split at h
   · rename_i n l' hx hxs
     cases h
     have:=az R hg hx
     simp only[List.map_cons,Jn R hg hxs,this,PE.den,CE.den]
   · cases h
set_option maxHeartbeats 1000000 in
theorem nN (R:Rep B h0 w0 ρ st C a w) {nw:iy} {gs:Gs} (hg:dA gs a.tmps) {o:Oper} {c:BE} {v:PE} (h:oZ nw P st gs o.op=some (c,v)) (hc:c.den C=true):
 (execOp a.eval o).run P w=.ok (.value (v.den C ρ)) w:=by
 obtain⟨dst,op,type,pos,after,guard⟩:=o
 simp only at h
 unfold oZ at h
 unfold execOp
 split at h
 · -- move
   simp only[Option.map_eq_some_iff,Prod.mk.injEq] at h
   obtain⟨u,hu,-,rfl⟩:=h
   simp[az R hg hu]
 · -- assign
   simp only[Option.map_eq_some_iff,Prod.mk.injEq] at h
   obtain⟨u,hu,-,rfl⟩:=h
   simp[az R hg hu]
 · -- pick
   rename_i c' x y
   split at h
   · rename_i s
     split at h
     · rename_i e p q he hp hq
       simp only[Option.map_eq_some_iff,Prod.mk.injEq] at h
       obtain⟨u,hu,-,rfl⟩:=h
       have hs:=nT R hg he
       have hs':a.eval (.tmp s)=.bool (e.den C):=hs
       simp only[hs',asBool]
       rw[Xb hu]
       cases hb:e.den C
       · rw[hb] at hs
         have:=az R (gs:=gs++[(s,false)]) (kF.2 ⟨hg,jy.2 hs⟩) hq
         simp[this]
       · rw[hb] at hs
         have:=az R (gs:=gs++[(s,true)]) (kF.2 ⟨hg,jy.2 hs⟩) hp
         simp[this]
     · cases h
   · cases h
 · -- fieldAddr
   rename_i t x f
   split at h
   · rename_i k o off u hx hf
     have hx:=XE hx
     split at h
     · cases h
     · rename_i hsz
       cases h
       unfold jV at hf
       split at hf
       · rename_i fs hu
         simp only[Option.map_eq_some_iff,Prod.mk.injEq] at hf
         obtain⟨fd,hfd,rfl,rfl⟩:=hf
         have hn:∃ n,bU P fd.type=some n∧n≠0:=by
          cases hq:bU P fd.type with
          | none=>exact absurd (.inr hq) hsz
          | some n=>exact⟨n,rfl,fun h0=>hsz (.inl (by rw[hq,h0]))⟩
         obtain⟨n,hn,hn0⟩:=hn
         refine dM ?_
         have hx':=az R hg hx
         simp only[hx',PE.den,CE.den,Instr.fieldAt]
         rw[Sem.run_bind,run_underlying hu,Result.andThen_ok]
         simp only[hfd,Instr.sureAddr,fieldPlace,Sem.run_bind,Sem.run_pure,Result.andThen_ok,bf hn,if_neg hn0]
         unfold Addr.add
         split
         · rename_i h0;rw[h0];rfl
         · rfl
       · cases hf
   · rename_i x' off u hx hf
     split at h
     · cases h
     · rename_i hsz
       cases h
       unfold jV at hf
       split at hf
       · rename_i fs hu
         simp only[Option.map_eq_some_iff,Prod.mk.injEq] at hf
         obtain⟨fd,hfd,rfl,rfl⟩:=hf
         have hn:∃ n,bU P fd.type=some n∧n≠0:=by
          cases hq:bU P fd.type with
          | none=>exact absurd (.inr hq) hsz
          | some n=>exact⟨n,rfl,fun h0=>hsz (.inl (by rw[hq,h0]))⟩
         obtain⟨n,hn,hn0⟩:=hn
         cases hax:x'.den C with
         | none=>
           exfalso
           cases x' with
           | pt n off=>
             simp only[AE.den,Option.map_eq_none_iff] at hax
             rw[AE.ok,BE.den,hax] at hc
             cases hc
           | el l i sz off=>
             simp only[AE.den,Option.map_eq_none_iff] at hax
             rw[AE.ok,BE.den,hax] at hc
             cases hc
           | ix n i sz off=>
             simp only[AE.den,Option.map_eq_none_iff] at hax
             rw[AE.ok,BE.den,hax] at hc
             cases hc
         | some q=>
           refine dM ?_
           have hv:a.eval x=.pointer (some ⟨q.1,q.2,none⟩):=Vw R hg hx hax
           simp only[hv,Instr.fieldAt]
           rw[Sem.run_bind,run_underlying hu,Result.andThen_ok]
           simp only[hfd,Instr.sureAddr,fieldPlace,Sem.run_bind,Sem.run_pure,Result.andThen_ok,bf hn,if_neg hn0]
           have hp:(x'.plus fd.offset).den C=some (q.1,q.2+fd.offset):=by
            cases x' with
            | pt n off=>
              simp only[AE.den,Option.map_eq_some_iff] at hax
              obtain⟨z,hz,rfl⟩:=hax
              simp only[AE.plus,AE.den,hz,Option.map_some,Nat.add_assoc]
            | el l i sz off=>
              simp only[AE.den,Option.map_eq_some_iff] at hax
              obtain⟨z,hz,rfl⟩:=hax
              simp only[AE.plus,AE.den,hz,Option.map_some,Nat.add_assoc]
            | ix n i sz off=>
              simp only[AE.den,Option.map_eq_some_iff] at hax
              obtain⟨z,hz,rfl⟩:=hax
              simp only[AE.plus,AE.den,hz,Option.map_some,Nat.add_assoc]
           show _=Result.ok (kL ((x'.plus fd.offset).den C)) w
           rw[hp]
           unfold Addr.add
           split
           · rename_i h0;rw[h0];rfl
           · rfl
       · cases hf
   · cases h
 · -- field
   split at h
   · rename_i l off u hx hf
     simp only[Option.map_eq_some_iff,Prod.mk.injEq] at h
     obtain⟨x,hx2,-,rfl⟩:=h
     unfold jV at hf
     split at hf
     · rename_i fs hu
       simp only[Option.map_eq_some_iff,Prod.mk.injEq] at hf
       obtain⟨fd,hfd,rfl,rfl⟩:=hf
       refine dM ?_
       have hx':=az R hg hx
       simp only[hx',PE.den,Instr.field]
       rw[Sem.run_bind,run_underlying hu,Result.andThen_ok]
       simp only[hfd,asAgg,Sem.run_bind,Sem.run_pure,Result.andThen_ok]
       exact Ut hx2
     · cases hf
   · cases h
 · -- nilCheck
   split at h
   · rename_i k o hx
     cases h
     have hx':=az R hg hx
     simp only[hx',PE.den,CE.den]
     rfl
   · rename_i a' hx
     cases h
     have hx':=az R hg hx
     simp only[hx',PE.den,CE.den]
     cases a'.den C<;>rfl
   · rename_i n hx
     cases h
     have hx':=az R hg hx
     simp only[hx',PE.den,CE.den,AE.den]
     cases hq:C.p.getD n none with
     | none=>rw[BE.den,hq] at hc;cases hc
     | some q=>rfl
   · rename_i f hx
     cases h
     have hx':=az R hg hx
     simp only[hx',PE.den,CE.den]
     rfl
   · cases h
 · -- indexAddr
   split at h
   · rename_i l k ix e hx hix hu
     split at h
     · rename_i n hn
       cases h
       simp only[BE.den,Bool.and_eq_true,bn,bG,IE.den] at hc
       obtain⟨⟨h1,h2⟩,h3⟩:=hc
       have hx':=az R hg hx
       have hi':=az R hg hix
       refine dM ?_
       rw[hx',hi']
       simp only[PE.den,CE.den,AE.den,bg.val]
       obtain⟨q,hq⟩:=Option.isSome_iff_exists.1 h3
       rw[hq]
       unfold Instr.indexAt
       simp only[asIntOf,Sem.run_bind,Sem.run_pure,Result.andThen_ok,run_underlying hu,Option.map_some,h1,h2,and_self,if_true,bf hn]
       show _=Result.ok (kL (some (q.1,q.2+(ix.den C).toNat*n+0))) w
       unfold Addr.add
       split
       · rename_i h0;rw[h0];rfl
       · rfl
     · cases h
   · rename_i k o k' ix len e hx hix hu
     split at h
     · rename_i n hn
       split at h
       · rename_i hb
         cases h
         have hx':=az R hg hx
         have hi':=az R hg hix
         refine dM ?_
         rw[hx',hi']
         simp only[PE.den,CE.den,IE.den]
         unfold Instr.indexAt
         simp only[asIntOf,Sem.run_bind,Sem.run_pure,Result.andThen_ok,run_underlying hu,Instr.sureAddr,hb.1,hb.2,and_self,if_true,bf hn]
         unfold Addr.add
         split
         · rename_i h0;rw[h0];rfl
         · rfl
       · cases h
     · cases h
   · rename_i n k ix len e hx hix hu
     split at h
     · rename_i z hz
       cases h
       simp only[BE.den,Bool.and_eq_true,bn,bG,IE.den] at hc
       obtain⟨⟨h1,h2⟩,h3⟩:=hc
       have hx':=az R hg hx
       have hi':=az R hg hix
       refine dM ?_
       rw[hx',hi']
       simp only[PE.den,CE.den,AE.den]
       obtain⟨q,hq⟩:=Option.isSome_iff_exists.1 h3
       rw[hq]
       unfold Instr.indexAt
       simp only[asIntOf,Sem.run_bind,Sem.run_pure,Result.andThen_ok,run_underlying hu,Option.map_some,Instr.sureAddr,h1,h2,and_self,if_true,bf hz]
       show _=Result.ok (kL (some (q.1,q.2+(ix.den C).toNat*z+0))) w
       unfold Addr.add
       split
       · rename_i h0;rw[h0];rfl
       · rfl
     · cases h
   · cases h
 · -- binOp
   rename_i op t x y yt
   split at h
   · rename_i p q hp hq
     obtain⟨h1,h2⟩:=xW (w:=w) (ρ:=ρ) (x:=x) (y:=y) h hc
     refine dM ?_
     rw[az R hg hp,az R hg hq,Sem.run_bind,h1,Result.andThen_ok]
     exact h2
   · cases h
 · -- unOp
   simp only[Option.bind_eq_some_iff] at h
   obtain⟨p,hp,h⟩:=h
   exact dM (by rw[az R hg hp];exact D7 h hc)
 · -- convert
   simp only[Option.bind_eq_some_iff] at h
   obtain⟨p,hp,h⟩:=h
   exact dM (by rw[az R hg hp];exact oC h)
 · -- index
   split at h
   · rename_i p q hp hq
     exact dM (by rw[az R hg hp,az R hg hq];exact EM h hc)
   · cases h
 · -- slice
   split at h
   · rename_i p l hh hp hl hh'
     refine dM ?_
     rw[az R hg hp,Dy R hg hl,Dy R hg hh']
     exact FU h hc
   · cases h
 · -- extract
   rename_i s ix
   split at h
   · rename_i l hs
     simp only[Option.map_eq_some_iff,Prod.mk.injEq] at h
     obtain⟨x,hx,-,rfl⟩:=h
     have:=R.slots s _ hs
     have hs':a.eval (.tmp s)=.tuple (l.map (PE.den C ρ)).toArray:=this
     refine dM ?_
     rw[hs']
     simp[Instr.extract,hx]
   · cases h
 · -- load
   simp only[Option.bind_eq_some_iff,Option.map_eq_some_iff,Prod.mk.injEq] at h
   obtain⟨p,hp,u,hu,-,rfl⟩:=h
   refine dM ?_
   rw[az R hg hp]
   exact yT R hu
 · -- build
   simp only[Option.bind_eq_some_iff,Option.map_eq_some_iff,Prod.mk.injEq] at h
   obtain⟨ps,hps,x,hx,-,rfl⟩:=h
   refine dM ?_
   refine Pz R.ones ?_ hx
   have:=parts_eval R hg hps
   simpa using this
 · -- len
   rename_i ars tys
   split at h
   · rename_i x t ha ht
     split at h
     · rename_i s hx hu
       cases h
       have hargs:ars=#[x]:=by cases ars;simp at ha;subst ha;rfl
       have htys:tys=#[t]:=by cases tys;simp at ht;subst ht;rfl
       subst hargs htys
       have hx':=az R hg hx
       simp[resolve,invoke,builtin,Builtin.len_,hx',PE.den,CE.den,run_underlying hu,IE.den,goInt,dJ]
     · rename_i l e hx hu
       cases h
       have hargs:ars=#[x]:=by cases ars;simp at ha;subst ha;rfl
       have htys:tys=#[t]:=by cases tys;simp at ht;subst ht;rfl
       subst hargs htys
       have hx':=az R hg hx
       simp[resolve,invoke,builtin,Builtin.len_,hx',PE.den,CE.den,run_underlying hu,IE.den,goInt,bg.val]
     · cases h
   · cases h
 · -- min
   rename_i ars _
   split at h
   · rename_i x y ha
     split at h
     · rename_i k p k' q hx hy
       split at h
       · rename_i hk
         subst hk
         cases h
         have hargs:ars=#[x,y]:=by cases ars;simp at ha;subst ha;rfl
         subst hargs
         have hx':=az R hg hx
         have hy':=az R hg hy
         by_cases hlt:q.den C<p.den C
         · simp[resolve,invoke,builtin,Builtin.min_,Builtin.min2,hx',hy',PE.den,CE.den,IE.den,BE.den,JU,hlt]
         · simp[resolve,invoke,builtin,Builtin.min_,Builtin.min2,hx',hy',PE.den,CE.den,IE.den,BE.den,JU,hlt]
       · cases h
     · cases h
   · cases h
 · -- max
   rename_i ars _
   split at h
   · rename_i x y ha
     split at h
     · rename_i k p k' q hx hy
       split at h
       · rename_i hk
         subst hk
         cases h
         have hargs:ars=#[x,y]:=by cases ars;simp at ha;subst ha;rfl
         subst hargs
         have hx':=az R hg hx
         have hy':=az R hg hy
         by_cases hlt:p.den C<q.den C
         · simp[resolve,invoke,builtin,Builtin.max_,Builtin.max2,hx',hy',PE.den,CE.den,IE.den,BE.den,JU,hlt]
         · simp[resolve,invoke,builtin,Builtin.max_,Builtin.max2,hx',hy',PE.den,CE.den,IE.den,BE.den,JU,hlt]
       · cases h
     · cases h
   · cases h
 · -- makeFunc
   rename_i f first captured
   split at h
   · rename_i hz
     simp only[Option.map_eq_some_iff,Prod.mk.injEq] at h
     obtain⟨l,hl,-,rfl⟩:=h
     have hf:first=#[]:=Array.eq_empty_of_size_eq_zero hz
     subst hf
     have hp:=Jn R hg hl
     refine dM ?_
     have hc2:captured.map a.eval=(l.map fun n=>Value.pointer ((C.p.getD n none).map fun x=>⟨x.1,x.2,none⟩)).toArray:=by
      rw[← hp];exact Array.toList_inj.1 (by rw[Array.toList_map])
     rw[hc2,show Array.map a.eval #[]=#[] from Array.toList_inj.1 (by rw[Array.toList_map];rfl)]
     rfl
   · cases h
 · cases h
end
end Go.Proofs.YtgpanefhaiohnaaGreatDoor
namespace Go.Proofs.YtgpanefhaiohnaaGreatDoor
open Go.RowKit
abbrev EU:TypeId:=1000004
def uV:List jh→List UInt8→Option Value
 | [],_=>none
 | e::es,s=>if e.1=s then some e.2.1 else uV es s
def LK:List jh→List UInt8→Value→Nat→List jh
 | [],s,v,n=>[(s,v,n)]
 | e::es,s,v,n=>if e.1=s then (s,v,e.2.2)::es else e::LK es s v n
def LG:List jh→List UInt8→List jh
 | [],_=>[]
 | e::es,s=>if e.1=s then es else e::LG es s
theorem nJ {s:List UInt8}:∀ {es:List jh} {v:Value},uV es s=some v→∃ pre n post,es=pre++(s,v,n)::post∧∀ x∈pre,x.1≠s
 | [],_,h=>by cases h
 | e::es,v,h=>by
   rw[uV] at h
   split at h
   · rename_i he
     obtain⟨a,b,c⟩:=e
     cases h
     cases he
     exact⟨[],c,es,rfl,fun x hx=>by cases hx⟩
   · rename_i he
     obtain⟨pre,n,post,rfl,hp⟩:=nJ h
     exact⟨e::pre,n,post,rfl,fun x hx=>by rcases List.mem_cons.1 hx with rfl | hx;exact he;exact hp x hx⟩
theorem qf {s:List UInt8}:∀ {es:List jh},uV es s=none→∀ x∈es,x.1≠s
 | [],_,x,hx=>by cases hx
 | e::es,h,x,hx=>by
   rw[uV] at h
   split at h
   · cases h
   · rename_i he
     rcases List.mem_cons.1 hx with rfl | hx
     · exact he
     · exact qf h x hx
theorem zq {s:List UInt8} {v u:Value} {n m:Nat} {post:List jh}:∀ {pre:List jh},(∀ x∈pre,x.1≠s)→LK (pre++(s,u,n)::post) s v m=pre++(s,v,n)::post
 | [],_=>by rw[List.nil_append,LK,if_pos rfl];rfl
 | e::pre,h=>by rw[List.cons_append,LK,if_neg (h e (by simp)),zq fun x hx=>h x (by simp[hx])];rfl
theorem IP {s:List UInt8} {v:Value} {m:Nat}:∀ {es:List jh},(∀ x∈es,x.1≠s)→LK es s v m=es++[(s,v,m)]
 | [],_=>rfl
 | e::es,h=>by rw[LK,if_neg (h e (by simp)),IP fun x hx=>h x (by simp[hx])];rfl
theorem zi {s:List UInt8} {u:Value} {n:Nat} {post:List jh}:∀ {pre:List jh},(∀ x∈pre,x.1≠s)→LG (pre++(s,u,n)::post) s=pre++post
 | [],_=>by rw[List.nil_append,LG,if_pos rfl];rfl
 | e::pre,h=>by rw[List.cons_append,LG,if_neg (h e (by simp)),zi fun x hx=>h x (by simp[hx])];rfl
theorem Dn {s:List UInt8}:∀ {es:List jh},(∀ x∈es,x.1≠s)→LG es s=es
 | [],_=>rfl
 | e::es,h=>by rw[LG,if_neg (h e (by simp)),Dn fun x hx=>h x (by simp[hx])]
theorem kC {s:List UInt8} {u:Value} {n:Nat} {post:List jh}:∀ {pre:List jh} (i:Nat),(∀ x∈pre,x.1≠s)→Instr.findNow .string (.string (B s)) ((pre++(s,u,n)::post).map jh.m) i=some (some (i+pre.length,u))
 | [],i,_=>by
   have:(B s==B s)=true:=(MapKept.bytes_beq _ _).2 rfl
   simp[Instr.findNow,Instr.sameNow,jh.m,this]
 | e::pre,i,h=>by
   have he:¬ B s=B e.1:=fun x=>h e (by simp) (bW.mp x).symm
   have:(B s==B e.1)=false:=by
    cases hq:(B s==B e.1) with
    | false=>rfl
    | true=>exact absurd ((MapKept.bytes_beq _ _).1 hq) he
   rw[List.cons_append,List.map_cons,Instr.findNow]
   simp only[Instr.sameNow,jh.m,this]
   have ih:=kC (u:=u) (n:=n) (post:=post) (pre:=pre) (i+1) fun x hx=>h x (by simp[hx])
   rw[ih,List.length_cons]
   congr 3
   omega
theorem kD {s:List UInt8}:∀ {es:List jh} (i:Nat),(∀ x∈es,x.1≠s)→Instr.findNow .string (.string (B s)) (es.map jh.m) i=some none
 | [],i,_=>rfl
 | e::es,i,h=>by
   have he:¬ B s=B e.1:=fun x=>h e (by simp) (bW.mp x).symm
   have:(B s==B e.1)=false:=by
    cases hq:(B s==B e.1) with
    | false=>rfl
    | true=>exact absurd ((MapKept.bytes_beq _ _).1 hq) he
   rw[List.map_cons,Instr.findNow]
   simp only[Instr.sameNow,jh.m,this]
   exact kD (i+1) fun x hx=>h x (by simp[hx])
theorem Qq {α:Type} (f:α→α) (x:α) (post:List α):∀ pre:List α,(pre++x::post).toArray.modify pre.length f=(pre++f x::post).toArray:=by
 intro pre
 apply Array.ext_getElem?
 intro i
 rw[Array.getElem?_modify]
 simp only[List.getElem?_toArray]
 by_cases h:pre.length=i
 · subst h
   simp
 · rw[if_neg h]
   rcases Nat.lt_or_ge i pre.length with hi | hi
   · rw[List.getElem?_append_left hi,List.getElem?_append_left hi]
   · rw[List.getElem?_append_right hi,List.getElem?_append_right hi]
     obtain⟨k,hk⟩:∃ k,i - pre.length=k+1:=⟨i - pre.length - 1,by omega⟩
     rw[hk,List.getElem?_cons_succ,List.getElem?_cons_succ]
theorem SI {α:Type} (x:α) (post pre:List α):(pre++x::post).toArray.eraseIdxIfInBounds pre.length=(pre++post).toArray:=by
 unfold Array.eraseIdxIfInBounds
 rw[dif_pos (by simp)]
 apply Array.ext'
 rw[Array.toList_eraseIdx]
 simp[List.eraseIdx_append_of_length_le]
def kV (t k:Nat) (args:List Value):Sem Value:=
 match k,args with
 | 0,[m,k]=>Instr.lookup t m k false
 | 1,[m,k]=>Instr.lookup t m k true
 | 2,[m,k,v]=>do Instr.mapUpdate t m k v;pure undef
 | 3,[m,k]=>Builtin.delete_ #[t] 0 #[m,k]
 | 4,[]=>Instr.makeMap t none
 | 5,[m,v]=>do Instr.storeAt t m v;pure undef
 | 6,[s,y,_,_,_]=>Builtin.append_ #[t,t] 0 #[s,y]
 | _,_=>pure undef
def Src (w:World) (y:bg) (m:Nat) (ys:List Value):Prop:=y.n=m∧(m=0∨∃ q:Nat×Nat,y.a=some q∧∀ j u,ys[j]? = some u→w.cell? ⟨q.1,q.2+j,none⟩=some u)
def lV (P:Program) (t k:Nat) (args:List Value) (w:World) (v:Value) (w':World):Prop:=
 if k=7 then ∀ (s:Value) (m sz bytes e:Nat) (ys:List Value) (y:bg),args=s::.int .i64 m::.int .i64 sz::.int .i64 bytes::.int .i64 e::ys→Src w y m ys→(Builtin.append_ #[t,t] 0 #[s,y.val]).run P w=.ok v w'
 else (kV t k args).run P w=.ok v w'
def zL (P:Program) (t k:Nat) (args:List Value):Prop:=
 (k=5→∃ m v,args=[m,v]∧bU P t=some v.cells.size∧∀ u∈v.cells.toList,u.oneCell'=true)∧
 (k=6→∃ s y e i z,args=[s,y,.int .i64 ((TypeInfo.size i:Nat):Int),.int .i64 ((TypeInfo.bytes i:Nat):Int),.int .i64 ((e:Nat):Int)]∧P.underlying t=some (.slice e)∧P.info? e=some i∧i.zero=some z∧z.cells.size=i.size∧0<i.size∧e<1000000)∧
 (k=7→∃ s m e i z ys,args=s::.int .i64 ((m:Nat):Int)::.int .i64 ((TypeInfo.size i:Nat):Int)::.int .i64 ((TypeInfo.bytes i:Nat):Int)::.int .i64 ((e:Nat):Int)::ys∧P.underlying t=some (.slice e)∧P.info? e=some i∧i.zero=some z∧z.cells.size=i.size∧0<i.size∧e<1000000∧
  ys.length=m*i.size∧dZ ys)
theorem mP {P:Program} {t k:Nat} {args:List Value} (h:k<5):zL P t k args:=⟨fun e=>by omega,fun e=>by omega,fun e=>by omega⟩
theorem gm {P:Program} {t k:Nat} {args:List Value} {w w':World} {v:Value} (h:k<7):lV P t k args w v w'=((kV t k args).run P w=.ok v w'):=by
 unfold lV
 rw[if_neg (by omega)]
def ES (P:Program) (f:FuncId) (args:List Value) (h:Hp) (φ:Value→Hp→Prop):Prop:=∃ t et,rE P t=some et∧
 ((∃ b es s z,(f=jo t 0∨f=jo t 1)∧args=[.map (some b),.string (B s)]∧h b=some ⟨sH es,EU⟩∧(P.info? et).bind (·.zero)=some z∧
  φ (if f=jo t 0 then (uV es s).getD z else .tuple #[(uV es s).getD z,.bool (uV es s).isSome]) h)∨
  (∃ b es s v,f=jo t 2∧args=[.map (some b),.string (B s),v]∧h b=some ⟨sH es,EU⟩∧∀ n,(∀ e∈es,e.2.2<n)→φ undef (h.set b ⟨sH (LK es s v n),EU⟩))∨
  (∃ b es s,f=jo t 3∧args=[.map (some b),.string (B s)]∧h b=some ⟨sH es,EU⟩∧φ (.tuple #[]) (h.set b ⟨sH (LG es s),EU⟩))∨
  (f=jo t 4∧args=[]∧∀ b,h b=none→φ (.map (some b)) (h.set b ⟨sH [],EU⟩)))
def Uk (P:Program) (f:FuncId) (args:List Value) (h:Hp) (φ:Value→Hp→Prop):Prop:=
 ES P f args h φ∨(∃ t x v k,f=jo t 5∧args=[kL x,v]∧jk h x v.cells.toList=some k∧φ undef k)∨
 (∃ t s y sz bytes e xs ys,f=jo t 6∧args=[bg.val s,bg.val y,.int .i64 ((sz:Nat):Int),.int .i64 ((bytes:Nat):Int),.int .i64 ((e:Nat):Int)]∧bJ h s xs e sz∧XN h y ys sz∧dZ ys∧s.n+y.n≤maxLen∧(s.n+y.n)*bytes≤140737488355328∧
  ∀ s' k,bJ k s' (xs++ys) e sz→s'.n=s.n+y.n→(∀ x,s'.a=some x→(∃ z,s.a=some z∧z.1=x.1)∨h x.1=none)→(∀ b o,(∀ x,s.a=some x→x.1≠b)→h b=some o→k b=some o)→φ s'.val k)∨
 (∃ t s m sz bytes e xs ys,f=jo t 7∧args=bg.val s::.int .i64 ((m:Nat):Int)::.int .i64 ((sz:Nat):Int)::.int .i64 ((bytes:Nat):Int)::.int .i64 ((e:Nat):Int)::ys∧bJ h s xs e sz∧s.n+m≤maxLen∧(s.n+m)*bytes≤140737488355328∧
  ∀ s' k,bJ k s' (xs++ys) e sz→s'.n=s.n+m→(∀ x,s'.a=some x→(∃ z,s.a=some z∧z.1=x.1)∨h x.1=none)→(∀ b o,(∀ x,s.a=some x→x.1≠b)→h b=some o→k b=some o)→φ s'.val k)
theorem tN {h:Hp} {w:World} (H:Holds h w) {b:Nat} {es fs:List jh} {k k':Nat} (hb:h b=some ⟨sH es,EU⟩) (hw:w.heap[b]? = some (.map (es.map jh.m).toArray k)) (hk:∀ e∈fs,e.2.2<k'):
 Holds (h.set b ⟨sH fs,EU⟩) { w with heap:=w.heap.setIfInBounds b (.map (fs.map jh.m).toArray k') }∧Fr w.heap.size h (h.set b ⟨sH fs,EU⟩) w { w with heap:=w.heap.setIfInBounds b (.map (fs.map jh.m).toArray k') }:=by
 have hu:∀ c,Un h c→c≠b:=fun c hc e=>by
  have:=hc _ (by rw[e];exact hb)
  exact absurd (show (1000004:Nat)=1000003 from this) (by decide)
 refine⟨fun c o hc=>?_,rfl,rfl,rfl,by simp,fun c _ hc=>(MapKept.heap_set hw).2 c (hu c hc),fun c _ hc=>?_,fun c _ hc=>hc.set (hu c hc)⟩
 · by_cases e:c=b
   · subst e
     simp only[Hp.set,if_true,Option.some.injEq] at hc
     subst hc
     exact .inr ⟨rfl,fs,k',rfl,(MapKept.heap_set hw).1,hk⟩
   · simp only[Hp.set,if_neg e] at hc
     show gI o (w.heap.setIfInBounds b _)[c]?
     rw[(MapKept.heap_set hw).2 c e]
     exact H c o hc
 · simp only[Hp.set]
   rw[if_neg (fun e=>by rw[e,hb] at hc;cases hc)]
   exact hc
theorem JJ {P:Program} {t et:TypeId} (h:rE P t=some et):∃ kt,P.underlying t=some (.map kt et)∧P.underlying kt=some .string:=by
 unfold rE at h
 split at h
 · rename_i k e hk
   split at h
   · cases h;exact⟨k,hk,by assumption⟩
   · cases h
 · cases h
theorem iO {t u j k:Nat} (hj:j<8) (hk:k<8) (h:jo t j=jo u k):t=u∧j=k:=by
 unfold jo at h
 constructor<;>omega
theorem ET {P:Program} {f:FuncId} {args:List Value} {h:Hp} {φ:Value→Hp→Prop} {w:World} (hs:ES P f args h φ) (H:Holds h w) {u c:Nat} (hc:c<8) (hf:f=jo u c):
 ∃ v k w',(kV u c args).run P w=.ok v w'∧φ v k∧Holds k w'∧Fr w.heap.size h k w w':=by
 obtain⟨t,et,hm,hs⟩:=hs
 obtain⟨kt,hmt,hkt⟩:=JJ hm
 have ik:∀ s:List UInt8,MapKept.IsKey .string (.string (B s)):=fun _=>trivial
 rcases hs with ⟨b,es,s,z,hg,rfl,hb,hz,hφ⟩ | ⟨b,es,s,v,hg,rfl,hb,hφ⟩ | ⟨b,es,s,hg,rfl,hb,hφ⟩ | ⟨hg,rfl,hφ⟩
 · obtain⟨k,hw,_⟩:=(H b _ hb).map
   have hzero:(zeroValue et).run P w=.ok z w:=by
    cases hi:P.info? et with
    | none=>rw[hi] at hz;cases hz
    | some i=>
      rw[hi] at hz
      have hz:i.zero=some z:=hz
      simp[zeroValue,typeInfo,hi,hz]
   have hfind:∃ r,Instr.findNow .string (.string (B s)) (es.map jh.m).toArray.toList 0=some r∧((uV es s=none∧r=none)∨∃ j u,uV es s=some u∧r=some (j,u)):=by
    cases hg:uV es s with
    | none=>exact⟨none,kD 0 (qf hg),.inl ⟨rfl,rfl⟩⟩
    | some u=>
      obtain⟨pre,n,post,rfl,hp⟩:=nJ hg
      exact⟨_,kC 0 hp,.inr ⟨_,u,rfl,rfl⟩⟩
   obtain⟨r,hr,hrr⟩:=hfind
   refine⟨_,h,w,?_,hφ,H,Fr.refl _ _ _⟩
   rcases hg with hg | hg
   · obtain⟨rfl,rfl⟩:=iO hc (by omega) (hf.symm.trans hg)
     unfold kV
     rw[if_pos hg]
     rcases hrr with ⟨h1,rfl⟩ | ⟨j,u,h1,rfl⟩<;>rw[h1]<;>
      simp[Instr.lookup,run_underlying hmt,MapKept.run_getObj_map hw,MapKept.run_checkKey hkt (ik s),MapKept.run_findKey hkt hr,Result.andThen,hzero]
   · obtain⟨rfl,rfl⟩:=iO hc (by omega) (hf.symm.trans hg)
     unfold kV
     rw[if_neg (fun e=>by have:=(iO (by omega) (by omega) (hg.symm.trans e)).2;omega)]
     rcases hrr with ⟨h1,rfl⟩ | ⟨j,u,h1,rfl⟩<;>rw[h1]<;>
      simp[Instr.lookup,run_underlying hmt,MapKept.run_getObj_map hw,MapKept.run_checkKey hkt (ik s),MapKept.run_findKey hkt hr,Result.andThen,hzero]
 · obtain⟨k,hw,hk⟩:=(H b _ hb).map
   obtain⟨rfl,rfl⟩:=iO hc (by omega) (hf.symm.trans hg)
   have hφ:=hφ k hk
   cases hq:uV es s with
   | none=>
     have hn:=qf hq
     rw[IP hn] at hφ
     obtain⟨t1,t2⟩:=tN (fs:=es++[(s,v,k)]) (k':=k+1) H hb hw (fun e he=>by
      rcases List.mem_append.1 he with he | he
      · have:=hk e he;omega
      · rw[List.mem_singleton] at he;subst he;show k<k+1;omega)
     refine⟨_,_,_,?_,hφ,t1,t2⟩
     unfold kV
     have hr:=kD (s:=s) 0 hn
     simp[Instr.mapUpdate,run_underlying hmt,MapKept.run_getObj_map hw,MapKept.run_checkKey hkt (ik s),MapKept.run_findKey hkt (show Instr.findNow .string (.string (B s)) (es.map jh.m).toArray.toList 0=some none from hr),MapKept.run_setObj_map _ hw,Result.andThen,jh.m]
   | some u=>
     obtain⟨pre,n,post,rfl,hp⟩:=nJ hq
     rw[zq hp] at hφ
     obtain⟨t1,t2⟩:=tN (fs:=pre++(s,v,n)::post) (k':=k) H hb hw (fun e he=>by
      rcases List.mem_append.1 he with he | he
      · exact hk e (List.mem_append_left _ he)
      · rcases List.mem_cons.1 he with rfl | he
        · exact hk (s,u,n) (by simp)
        · exact hk e (by simp[he]))
     refine⟨_,_,_,?_,hφ,t1,t2⟩
     unfold kV
     have hr:=kC (s:=s) (u:=u) (n:=n) (post:=post) 0 hp
     rw[Nat.zero_add] at hr
     have hj:((pre++(s,u,n)::post).map jh.m).toArray[pre.length]? = some (jh.m (s,u,n)):=by simp
     have hmod:((pre++(s,u,n)::post).map jh.m).toArray.modify pre.length (fun e=>{ e with key:=.string (B s),val:=v })=((pre++(s,v,n)::post).map jh.m).toArray:=by
      rw[List.map_append,List.map_cons,List.map_append,List.map_cons]
      have:=Qq (fun e:MapEntry=>{ e with key:=.string (B s),val:=v }) (jh.m (s,u,n)) (post.map jh.m) (pre.map jh.m)
      rw[List.length_map] at this
      rw[this]
      rfl
     simp only[Instr.mapUpdate,Sem.run_bind,run_underlying hmt,MapKept.run_getObj_map hw,MapKept.run_checkKey hkt (ik s),MapKept.run_findKey hkt (show Instr.findNow .string (.string (B s)) ((pre++(s,u,n)::post).map jh.m).toArray.toList 0=some (some (pre.length,u)) from hr),Result.andThen,hj,Option.map_some,Option.getD_some]
     rw[show (jh.m (s,u,n)).key=Value.string (B s) from rfl]
     simp only[MapKept.run_keyThatStays (ik s),hmod,MapKept.run_setObj_map _ hw]
     rfl
 · obtain⟨k,hw,hk⟩:=(H b _ hb).map
   obtain⟨rfl,rfl⟩:=iO hc (by omega) (hf.symm.trans hg)
   cases hq:uV es s with
   | none=>
     have hn:=qf hq
     rw[Dn hn] at hφ
     obtain⟨t1,t2⟩:=tN (fs:=es) (k':=k) H hb hw hk
     refine⟨_,_,_,?_,hφ,t1,t2⟩
     unfold kV
     have hr:=kD (s:=s) 0 hn
     simp[Builtin.delete_,run_underlying hmt,MapKept.run_getObj_map hw,MapKept.run_checkKey hkt (ik s),MapKept.run_findKey hkt (show Instr.findNow .string (.string (B s)) (es.map jh.m).toArray.toList 0=some none from hr),MapKept.run_setObj_map _ hw,Result.andThen]
   | some u=>
     obtain⟨pre,n,post,rfl,hp⟩:=nJ hq
     rw[zi hp] at hφ
     obtain⟨t1,t2⟩:=tN (fs:=pre++post) (k':=k) H hb hw (fun e he=>hk e (by
      rcases List.mem_append.1 he with he | he
      · exact List.mem_append_left _ he
      · simp[he]))
     refine⟨_,_,_,?_,hφ,t1,t2⟩
     unfold kV
     have hr:=kC (s:=s) (u:=u) (n:=n) (post:=post) 0 hp
     rw[Nat.zero_add] at hr
     have her:((pre++(s,u,n)::post).map jh.m).toArray.eraseIdxIfInBounds pre.length=((pre++post).map jh.m).toArray:=by
      rw[List.map_append,List.map_cons,List.map_append]
      have:=SI (jh.m (s,u,n)) (post.map jh.m) (pre.map jh.m)
      rwa [List.length_map] at this
     have hfk:=MapKept.run_findKey (P:=P) (w:=w) hkt (show Instr.findNow .string (.string (B s)) ((pre++(s,u,n)::post).map jh.m).toArray.toList 0=some (some (pre.length,u)) from hr)
     simp only[Builtin.delete_,List.getElem?_toArray,List.getElem?_cons_zero,List.getElem?_cons_succ,Sem.run_bind,run_underlying hmt,MapKept.run_getObj_map hw,MapKept.run_checkKey hkt (ik s),hfk,Result.andThen,her,MapKept.run_setObj_map _ hw]
     rfl
 · obtain⟨rfl,rfl⟩:=iO hc (by omega) (hf.symm.trans hg)
   have hnone:h w.heap.size=none:=by
    cases hq:h w.heap.size with
    | none=>rfl
    | some o=>have:=H.lt (b:=w.heap.size) (by rw[hq];simp);omega
   have hbel:Below w.heap.size w (w.alloc (.map #[] 0)):=(Below.refl _ _).alloc (Nat.le_refl _) _
   refine⟨_,_,w.alloc (.map #[] 0),?_,hφ w.heap.size hnone,fun c o hc=>?_,hbel.os,hbel.tape,hbel.output,hbel.size,fun c hc _=>hbel.block c hc,fun c hc hn=>?_,fun c hc hn=>hn.set (by omega)⟩
   · unfold kV
     simp only[run_makeMap]
   · by_cases e:c=w.heap.size
     · subst e
       simp only[Hp.set,if_true,Option.some.injEq] at hc
       subst hc
       exact .inr ⟨rfl,[],0,rfl,(MapKept.heap_alloc w _).1,fun e he=>by cases he⟩
     · simp only[Hp.set,if_neg e] at hc
       exact H.below hbel c o hc
   · simp only[Hp.set]
     rw[if_neg (by omega)]
     exact hn
end Go.Proofs.YtgpanefhaiohnaaGreatDoor
