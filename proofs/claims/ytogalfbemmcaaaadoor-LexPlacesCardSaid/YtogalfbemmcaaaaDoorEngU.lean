/- The engine, part U: conveniences. -/
import Derived.Test.YtogalfbemmcaaaaDoorEngG
namespace Go.Proofs.YtogalfbemmcaaaaDoor
open Go.RowKit

def noInv : Nat → Ctx → Prop := fun _ _ => False
def noMeas : Nat → Ctx → Nat := fun _ _ => 0
def noAnn : Nat → LAnn := fun _ => ⟨[], [], []⟩
theorem fr_noHeap {B : Nat} {k : Hp} {w u : World} (h : Fr B noHeap k w u) : Below B w u :=
  ⟨h.os, h.tape, h.output, h.size, fun i hi => h.block i hi rfl⟩
theorem holds_noHeap (w : World) : Holds noHeap w := fun _ _ h => by cases h
theorem by_fm {P : Program} {f : FuncId} {fn : Func} (hf : P.funcs[f]? = some fn) {nw : Cfg} {A : Nat → LAnn} {fm : Fm} (hfm : genFn nw P A fn = fm) {ps : List PE} {n : Cnt} (hp : freshPs P .zero fn.params.toList = some (ps, n))
    (cts : List (Ct P)) (post : Value → Hp → Prop) (inv : Nat → Ctx → Prop) (meas : Nat → Ctx → Nat) (C : Ctx) (hC : Has C n) (ho : Ones C.v) (h : fm.says ⟨specOf cts, post, inv, meas⟩ C) (w : World) (hH : Holds C.h w) {args : Array Value} (ha : args.toList = ps.map (PE.den C noOwn)) :
    Calls P f args w fun e w' => ∃ v k, e = .returned v ∧ post v k ∧ Holds k w' ∧ Fr w.heap.size C.h k w w' :=
  by_formula hf nw A (E := ⟨specOf cts, post, inv, meas⟩) (specOf_good cts) hfm hp C hC ho h w hH ha
theorem by_fmP {P : Program} {f : FuncId} {fn : Func} (hf : P.funcs[f]? = some fn) {nw : Cfg} {A : Nat → LAnn} {fm : Fm} {ps : List PE} {n : Cnt} (hfm : genFnP nw P A fn ps n = fm)
    (cts : List (Ct P)) (post : Value → Hp → Prop) (inv : Nat → Ctx → Prop) (meas : Nat → Ctx → Nat) (C : Ctx) (hC : Has C n) (ho : Ones C.v) (h : fm.says ⟨specOf cts, post, inv, meas⟩ C) (w : World) (hH : Holds C.h w) {args : Array Value} (ha : args.toList = ps.map (PE.den C noOwn)) :
    Calls P f args w fun e w' => ∃ v k, e = .returned v ∧ post v k ∧ Holds k w' ∧ Fr w.heap.size C.h k w w' :=
  by_formulaP hf nw A (E := ⟨specOf cts, post, inv, meas⟩) (specOf_good cts) hfm C hC ho h w hH ha
/-- A function that looks at no memory. -/
theorem by_fm0 {P : Program} {f : FuncId} {fn : Func} (hf : P.funcs[f]? = some fn) {nw : Cfg} {A : Nat → LAnn} {fm : Fm} (hfm : genFn nw P A fn = fm) {ps : List PE} {n : Cnt} (hp : freshPs P .zero fn.params.toList = some (ps, n))
    (cts : List (Ct P)) (r : Value) (inv : Nat → Ctx → Prop) (meas : Nat → Ctx → Nat) (C : Ctx) (hh : C.h = noHeap) (hC : Has C n) (ho : Ones C.v) (h : fm.says ⟨specOf cts, fun v _ => v = r, inv, meas⟩ C) (w : World) {args : Array Value} (ha : args.toList = ps.map (PE.den C noOwn)) :
    Calls P f args w fun e w' => e = .returned r ∧ Below w.heap.size w w' := by
  refine (by_fm hf hfm hp cts (fun v _ => v = r) inv meas C hC ho h w (by rw [hh]; exact holds_noHeap w) ha).mono ?_
  rintro e w' ⟨v, k, rfl, rfl, hH, hF⟩
  rw [hh] at hF
  exact ⟨rfl, fr_noHeap hF⟩
/-! ### What a formula says, a road at a time -/
theorem imp_ite {p : Bool} {a b : Prop} : ((p = true → a) ∧ (p = false → b)) = (if p = true then a else b) := by
  apply propext; cases p <;> simp
section
variable (E : Env) (C : Ctx)
theorem says_tt : Fm.tt.says E C = True := rfl
theorem says_ff : Fm.ff.says E C = False := rfl
theorem says_need (g c : BE) (k : Fm) : (Fm.need g c k).says E C = ((if g.den C = true then c.den C = true else True) ∧ k.says E C) := by
  show ((g.den C = true → c.den C = true) ∧ k.says E C) = _
  congr 1
  apply propext; cases g.den C <;> simp
theorem says_ite (b : BE) (t e : Fm) : (Fm.ite b t e).says E C = if b.den C = true then t.says E C else e.says E C := imp_ite
theorem says_call (g : BE) (m : Bool) (f : FuncId) (args : List PE) (r : VE) (d : Cnt) (k : Fm) : (Fm.call g m f args r d k).says E C =
    if g.den C = true then E.spec f (args.map (PE.den C noOwn)) C.h fun v h => (m = true → HLe C.h h) ∧ exI d fun x => v = r.den (C.push x) noOwn ∧ k.says E ((C.push x).heap h) else k.says E (C.push (Inc.blank d)) := imp_ite
theorem says_load (g : BE) (a : AE) (n : Nat) (r : List CE) (d : Cnt) (k : Fm) : (Fm.load g a n r d k).says E C =
    if g.den C = true then exI d fun x => hread C.h (a.den C) n = some (r.map (CE.den (C.push x) noOwn)) ∧ k.says E (C.push x) else k.says E (C.push (Inc.blank d)) := imp_ite
theorem says_store (a : AE) (cs : List CE) (k : Fm) : (Fm.store a cs k).says E C = ∃ h, hwrite C.h (a.den C) (cs.map (CE.den C noOwn)) = some h ∧ k.says E (C.heap h) := rfl
theorem says_mk (cs : List CE) (ty : TypeId) (len : Nat) (k : Fm) : (Fm.mk cs ty len k).says E C = ∀ b, C.h b = none → k.says E ((C.push ⟨[], [], [], [], [⟨some (b, 0), len, len⟩], []⟩).heap (C.h.set b ⟨cs.map (CE.den C noOwn), ty⟩)) := rfl
theorem says_mks (n : IE) (z : CE) (ty : TypeId) (k : Fm) : (Fm.mks n z ty k).says E C = (0 ≤ n.den C ∧ n.den C ≤ 16777216 ∧ ∀ b, C.h b = none → k.says E ((C.push ⟨[], [], [], [], [⟨some (b, 0), (n.den C).toNat, (n.den C).toNat⟩], []⟩).heap (C.h.set b ⟨List.replicate (n.den C).toNat (z.den C noOwn), ty⟩))) := rfl
theorem says_new (cs : List CE) (ty : TypeId) (k : Fm) : (Fm.new cs ty k).says E C = ∀ b, C.h b = none → k.says E ((C.push ⟨[], [], [], [], [], [some (b, 0)]⟩).heap (C.h.set b ⟨cs.map (CE.den C noOwn), ty⟩)) := rfl
theorem says_str (l : LE) (k : Fm) : (Fm.str l k).says E C = ∃ bs, BytesAt C.h (l.den C) bs ∧ k.says E (C.push ⟨[], [], [bs], [], [], []⟩) := rfl
theorem says_ret (r : VE) : (Fm.ret r).says E C = E.post (r.den C noOwn) C.h := rfl
theorem says_again (o : Nat) (n0 n1 : Cnt) (g : Got) : (Fm.again o n0 n1 g).says E C = (E.inv o ((C.cut n0).push (g.den C)).bare ∧ E.meas o ((C.cut n0).push (g.den C)).bare < C.m o) := rfl
theorem says_app (s y : LE) (sz bytes : Nat) (ty : TypeId) (k : Fm) : (Fm.app s y sz bytes ty k).says E C = ∃ xs ys, OwnS C.h (s.den C) xs ty sz ∧ RdS C.h (y.den C) ys sz ∧ Ones ys ∧ (s.den C).n + (y.den C).n ≤ maxLen ∧ ((s.den C).n + (y.den C).n) * bytes ≤ 140737488355328 ∧
    ∀ s' h, OwnS h s' (xs ++ ys) ty sz → s'.n = (s.den C).n + (y.den C).n → (∀ x, s'.a = some x → (∃ z, (s.den C).a = some z ∧ z.1 = x.1) ∨ C.h x.1 = none) → (∀ b o, (∀ x, (s.den C).a = some x → x.1 ≠ b) → C.h b = some o → h b = some o) → k.says E ((C.push ⟨[], [], [], [], [s'], []⟩).heap h) := rfl
end
/-! ### A step at a time -/
/-- What is still to be reckoned. -/
def Then (E : Env) (k : Fm) (C : Ctx) : Prop := k.says E C
theorem then_step (E : Env) (k : Fm) (C : Ctx) : Then E k C = k.says E C := rfl
section
variable (E : Env) (C : Ctx)
theorem th_need (g c : BE) (k : Fm) : (Fm.need g c k).says E C = ((if g.den C = true then c.den C = true else True) ∧ Then E k C) := says_need E C g c k
theorem th_ite (b : BE) (t e : Fm) : (Fm.ite b t e).says E C = if b.den C = true then Then E t C else Then E e C := says_ite E C b t e
theorem th_call (g : BE) (m : Bool) (f : FuncId) (args : List PE) (r : VE) (d : Cnt) (k : Fm) : (Fm.call g m f args r d k).says E C =
    if g.den C = true then E.spec f (args.map (PE.den C noOwn)) C.h fun v h => (m = true → HLe C.h h) ∧ exI d fun x => v = r.den (C.push x) noOwn ∧ Then E k ((C.push x).heap h) else Then E k (C.push (Inc.blank d)) := says_call E C g m f args r d k
theorem th_load (g : BE) (a : AE) (n : Nat) (r : List CE) (d : Cnt) (k : Fm) : (Fm.load g a n r d k).says E C =
    if g.den C = true then exI d fun x => hread C.h (a.den C) n = some (r.map (CE.den (C.push x) noOwn)) ∧ Then E k (C.push x) else Then E k (C.push (Inc.blank d)) := says_load E C g a n r d k
theorem th_store (a : AE) (cs : List CE) (k : Fm) : (Fm.store a cs k).says E C = ∃ h, hwrite C.h (a.den C) (cs.map (CE.den C noOwn)) = some h ∧ Then E k (C.heap h) := rfl
theorem th_mk (cs : List CE) (ty : TypeId) (len : Nat) (k : Fm) : (Fm.mk cs ty len k).says E C = ∀ b, C.h b = none → Then E k ((C.push ⟨[], [], [], [], [⟨some (b, 0), len, len⟩], []⟩).heap (C.h.set b ⟨cs.map (CE.den C noOwn), ty⟩)) := rfl
theorem th_mks (n : IE) (z : CE) (ty : TypeId) (k : Fm) : (Fm.mks n z ty k).says E C = (0 ≤ n.den C ∧ n.den C ≤ 16777216 ∧ ∀ b, C.h b = none → Then E k ((C.push ⟨[], [], [], [], [⟨some (b, 0), (n.den C).toNat, (n.den C).toNat⟩], []⟩).heap (C.h.set b ⟨List.replicate (n.den C).toNat (z.den C noOwn), ty⟩))) := rfl
theorem th_new (cs : List CE) (ty : TypeId) (k : Fm) : (Fm.new cs ty k).says E C = ∀ b, C.h b = none → Then E k ((C.push ⟨[], [], [], [], [], [some (b, 0)]⟩).heap (C.h.set b ⟨cs.map (CE.den C noOwn), ty⟩)) := rfl
theorem th_str (l : LE) (k : Fm) : (Fm.str l k).says E C = ∃ bs, BytesAt C.h (l.den C) bs ∧ Then E k (C.push ⟨[], [], [bs], [], [], []⟩) := rfl
end
/-- A loop: its invariant at its head; then the body, at whatever the names are. -/
theorem loop_intro {E : Env} {o : Nat} {g : Got} {k : Fm} {C : Ctx} (h1 : E.inv o (C.push (g.den C)).bare)
    (h2 : ∀ i b s v l p h M, E.inv o ⟨i, b, s, v, l, p, h, noM⟩ → M o = E.meas o ⟨i, b, s, v, l, p, h, noM⟩ → k.says E ⟨i, b, s, v, l, p, h, M⟩) : (Fm.loop o g k).says E C := by
  refine ⟨h1, (allI_iff _ _).2 fun x _ _ h hi => ?_⟩
  exact h2 _ _ _ _ _ _ _ _ hi (by simp [Ctx.mark, Ctx.bare, Ctx.push, Ctx.heap])
theorem slc_val (x : Slc) (b o n c : Nat) : (Value.slice (some ⟨b, o, none⟩) n c = x.val) = (x = ⟨some (b, o), n, c⟩) := by
  apply propext
  cases x with
  | mk a m d =>
    cases a with
    | none => simp [Slc.val]
    | some q => cases q; simp [Slc.val]; constructor <;> (rintro ⟨⟨rfl, rfl⟩, rfl, rfl⟩; simp)
theorem slc_nil (x : Slc) (n c : Nat) : (Value.slice none n c = x.val) = (x = ⟨none, n, c⟩) := by
  apply propext
  cases x with
  | mk a m d =>
    cases a with
    | none => simp [Slc.val]; constructor <;> (rintro ⟨rfl, rfl⟩; simp)
    | some q => simp [Slc.val]
theorem slc_inj (x y : Slc) : (x.val = y.val) = (y = x) := by
  cases x with
  | mk a n c =>
    cases a with
    | none => exact slc_nil y n c
    | some q => exact slc_val y q.1 q.2 n c
theorem pt_val (p : Option (Nat × Nat)) (b o : Nat) : (Value.pointer (some ⟨b, o, none⟩) = Value.pointer (p.map fun x => ⟨x.1, x.2, none⟩)) = (p = some (b, o)) := by
  apply propext
  cases p with
  | none => simp
  | some q => cases q; simp; constructor <;> (rintro ⟨rfl, rfl⟩; simp)
theorem pt_nil (p : Option (Nat × Nat)) : (Value.pointer none = Value.pointer (p.map fun x => (⟨x.1, x.2, none⟩ : Addr))) = (p = none) := by
  apply propext
  cases p <;> simp
theorem hle_noHeap (h : Hp) : HLe noHeap h = True := eq_true fun _ _ h => by cases h
theorem hle_refl (h : Hp) : HLe h h = True := eq_true fun _ _ h => h
theorem hle_set {h : Hp} {b : Nat} (hb : h b = none) (o : HO) : HLe h (h.set b o) := fun k x hk => by
  simp only [Hp.set]
  rw [if_neg (fun e => by rw [e, hb] at hk; cases hk)]
  exact hk
theorem set_same (h : Hp) (b : Nat) (o : HO) : (h.set b o) b = some o := by simp [Hp.set]
theorem set_ne (h : Hp) {b k : Nat} (hk : k ≠ b) (o : HO) : (h.set b o) k = h k := by simp [Hp.set, hk]
theorem hread_set (h : Hp) (b : Nat) (o : HO) (off n : Nat) : hread (h.set b o) (some (b, off)) n = if off + n ≤ o.cs.length then some ((o.cs.drop off).take n) else none := by
  unfold hread; simp only [set_same]
theorem hread_of {h : Hp} {b : Nat} {o : HO} (hb : h b = some o) (off n : Nat) : hread h (some (b, off)) n = if off + n ≤ o.cs.length then some ((o.cs.drop off).take n) else none := by
  unfold hread; simp only [hb]
theorem hread_set_ne (h : Hp) {b c : Nat} (o : HO) (off n : Nat) (hc : c ≠ b) : hread (h.set b o) (some (c, off)) n = hread h (some (c, off)) n := by
  unfold hread; simp only [set_ne h hc]
theorem set_set (h : Hp) (b : Nat) (o o' : HO) : (h.set b o).set b o' = h.set b o' := by
  funext k; simp only [Hp.set]; split <;> rfl
theorem set_comm (h : Hp) {b c : Nat} (hc : b ≠ c) (o o' : HO) : (h.set b o).set c o' = (h.set c o').set b o := by
  funext k; simp only [Hp.set]; split <;> split <;> first | rfl | omega
theorem set_self {h : Hp} {b : Nat} {o : HO} (hb : h b = some o) : h = h.set b o := by
  funext k; simp only [Hp.set]; split
  · rename_i e; rw [e, hb]
  · rfl
theorem hwrite_set (h : Hp) (b : Nat) (o : HO) (off : Nat) (cs : List Value) : hwrite (h.set b o) (some (b, off)) cs = if off + cs.length ≤ o.cs.length then some (h.set b ⟨o.cs.take off ++ cs ++ o.cs.drop (off + cs.length), o.ty⟩) else none := by
  unfold hwrite; simp only [set_same, set_set]
/-- Known memory that nobody asks for any more is forgotten. -/
theorem ct_forget {P : Program} {f : FuncId} {args : Array Value} {w : World} {h : Hp} {φ : Value → Hp → Prop} {B : Nat} (hc : Calls P f args w fun e w' => ∃ v k, e = .returned v ∧ (∃ k', HLe k' k ∧ φ v k') ∧ Holds k w' ∧ Fr B h k w w') :
    Calls P f args w fun e w' => ∃ v k, e = .returned v ∧ φ v k ∧ Holds k w' ∧ Fr B h k w w' := by
  refine hc.mono ?_
  rintro e w' ⟨v, k, rfl, ⟨k', hl, hφ⟩, hH, hF⟩
  refine ⟨v, k', rfl, hφ, fun b o hb => hH b o (hl b o hb), ⟨hF.os, hF.tape, hF.output, hF.size, hF.block, fun c hc hn => ?_⟩⟩
  cases hq : k' c with
  | none => rfl
  | some o => have := hl c o hq; rw [hF.ghost c hc hn] at this; cases this
theorem noHeap_at (b : Nat) : noHeap b = none := rfl
theorem ones_nil : Ones [] := fun _ h => by cases h
end Go.Proofs.YtogalfbemmcaaaaDoor
