/- The engine, part U: conveniences. -/
import Derived.Test.YtbgigkfdenkfiaaDoorEngG
namespace Go.Proofs.YtbgigkfdenkfiaaDoor
open Go.RowKit

def noInv : Nat → Ctx → Prop := fun _ _ => False
def noMeas : Nat → Ctx → Nat := fun _ _ => 0
def noAnn : Nat → LAnn := fun _ => ⟨[], [], []⟩
theorem fr_noHeap {B : Nat} {k : Hp} {w u : World} (h : Fr B noHeap k w u) : Below B w u :=
  ⟨h.os, h.tape, h.output, h.size, fun i hi => h.block i hi rfl⟩
theorem holds_noHeap (w : World) : Holds noHeap w := fun _ _ h => by cases h
theorem by_fm {P : Program} {f : FuncId} {fn : Func} (hf : P.funcs[f]? = some fn) {nw : Cfg} {A : Nat → LAnn} {fm : Fm} (hfm : genFn nw P A fn = fm) {ps : List PE} {n : Cnt} (hp : freshPs P .zero fn.params.toList = some (ps, n))
    (cts : List (Ct P)) (post : Value → Hp → Prop) (inv : Nat → Ctx → Prop) (meas : Nat → Ctx → Nat) (C : Ctx) (hC : Has C n) (ho : Ones C.v) (h : fm.says ⟨specOf cts, post, inv, meas⟩ C) (w : World) (hH : Holds C.h w) {args : Array Value} (ha : args.toList = ps.map (PE.den C noOwn)) :
    Calls P f args w fun e w' => ∃ v k, e = .returned v ∧ post v k ∧ Holds k w' ∧ Fr w.heap.size C.h k w w' :=
  by_formula hf nw A (E := ⟨specOf cts, post, inv, meas⟩) (specOf_good cts) hfm hp C hC ho h w hH ha
/-- A function that looks at no memory. -/
theorem by_fm0 {P : Program} {f : FuncId} {fn : Func} (hf : P.funcs[f]? = some fn) {nw : Cfg} {A : Nat → LAnn} {fm : Fm} (hfm : genFn nw P A fn = fm) {ps : List PE} {n : Cnt} (hp : freshPs P .zero fn.params.toList = some (ps, n))
    (cts : List (Ct P)) (r : Value) (inv : Nat → Ctx → Prop) (meas : Nat → Ctx → Nat) (C : Ctx) (hh : C.h = noHeap) (hC : Has C n) (ho : Ones C.v) (h : fm.says ⟨specOf cts, fun v _ => v = r, inv, meas⟩ C) (w : World) {args : Array Value} (ha : args.toList = ps.map (PE.den C noOwn)) :
    Calls P f args w fun e w' => e = .returned r ∧ Below w.heap.size w w' := by
  refine (by_fm hf hfm hp cts (fun v _ => v = r) inv meas C hC ho h w (by rw [hh]; exact holds_noHeap w) ha).mono ?_
  rintro e w' ⟨v, k, rfl, rfl, hH, hF⟩
  rw [hh] at hF
  exact ⟨rfl, fr_noHeap hF⟩
theorem slc_val (x : Slc) (b o n c : Nat) : (Value.slice (some ⟨b, o, none⟩) n c = x.val) = (x = ⟨some (b, o), n, c⟩) := by
  apply propext
  cases x with
  | mk a m d =>
    cases a with
    | none => simp [Slc.val]
    | some q => cases q; simp [Slc.val]; constructor <;> (rintro ⟨⟨rfl, rfl⟩, rfl, rfl⟩; simp)
theorem slc_nil (x : Slc) (n c : Nat) : (Value.slice none n c = x.val) = (x = ⟨none, n, c⟩) := by
  apply propext
  cases x with
  | mk a m d =>
    cases a with
    | none => simp [Slc.val]; constructor <;> (rintro ⟨rfl, rfl⟩; simp)
    | some q => simp [Slc.val]
theorem slc_inj (x y : Slc) : (x.val = y.val) = (y = x) := by
  cases x with
  | mk a n c =>
    cases a with
    | none => exact slc_nil y n c
    | some q => exact slc_val y q.1 q.2 n c
theorem pt_val (p : Option (Nat × Nat)) (b o : Nat) : (Value.pointer (some ⟨b, o, none⟩) = Value.pointer (p.map fun x => ⟨x.1, x.2, none⟩)) = (p = some (b, o)) := by
  apply propext
  cases p with
  | none => simp
  | some q => cases q; simp; constructor <;> (rintro ⟨rfl, rfl⟩; simp)
theorem pt_nil (p : Option (Nat × Nat)) : (Value.pointer none = Value.pointer (p.map fun x => (⟨x.1, x.2, none⟩ : Addr))) = (p = none) := by
  apply propext
  cases p <;> simp
theorem hle_noHeap (h : Hp) : HLe noHeap h = True := eq_true fun _ _ h => by cases h
theorem hle_refl (h : Hp) : HLe h h = True := eq_true fun _ _ h => h
theorem hle_set {h : Hp} {b : Nat} (hb : h b = none) (o : HO) : HLe h (h.set b o) := fun k x hk => by
  simp only [Hp.set]
  rw [if_neg (fun e => by rw [e, hb] at hk; cases hk)]
  exact hk
theorem set_same (h : Hp) (b : Nat) (o : HO) : (h.set b o) b = some o := by simp [Hp.set]
theorem set_ne (h : Hp) {b k : Nat} (hk : k ≠ b) (o : HO) : (h.set b o) k = h k := by simp [Hp.set, hk]
theorem hread_set (h : Hp) (b : Nat) (o : HO) (off n : Nat) : hread (h.set b o) (some (b, off)) n = if off + n ≤ o.cs.length then some ((o.cs.drop off).take n) else none := by
  unfold hread; simp only [set_same]
theorem hread_of {h : Hp} {b : Nat} {o : HO} (hb : h b = some o) (off n : Nat) : hread h (some (b, off)) n = if off + n ≤ o.cs.length then some ((o.cs.drop off).take n) else none := by
  unfold hread; simp only [hb]
theorem noHeap_at (b : Nat) : noHeap b = none := rfl
theorem ones_nil : Ones [] := fun _ h => by cases h
end Go.Proofs.YtbgigkfdenkfiaaDoor
