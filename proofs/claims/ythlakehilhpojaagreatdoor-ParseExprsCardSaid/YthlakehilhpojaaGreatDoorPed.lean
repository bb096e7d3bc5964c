/- hindcastlaw06: texts joined: EngF, EngG, EngU, LexB, LexC, LexD, LexE, LexF, LexG, LexH, Shelf, LexI, LexJ, LexK, LexL, LexM. -/
import Derived.Test.YthlakehilhpojaaGreatDoorPec
namespace Go.Proofs.YthlakehilhpojaaGreatDoor
open Go.RowKit

/-! ### A loop's head -/
structure GLe (g h : Got) : Prop where
  i : g.i <+: h.i
  b : g.b <+: h.b
  s : g.s <+: h.s
  v : g.v <+: h.v
  l : g.l <+: h.l
  p : g.p <+: h.p
theorem GLe.refl (g : Got) : GLe g g := ⟨List.prefix_refl _, List.prefix_refl _, List.prefix_refl _, List.prefix_refl _, List.prefix_refl _, List.prefix_refl _⟩
theorem GLe.trans {f g h : Got} (p : GLe f g) (q : GLe g h) : GLe f h := ⟨p.i.trans q.i, p.b.trans q.b, p.s.trans q.s, p.v.trans q.v, p.l.trans q.l, p.p.trans q.p⟩
/-- The context of a head: the names stand for what was found. -/
def gotCtx (C0 C : Ctx) (g : Got) : Ctx := (C0.push (g.den C)).heap C.h
theorem getD_app_at {α : Type} {l m t : List α} {x d : α} {j : Nat} (hj : l.length + m.length = j) (h : m ++ [x] <+: t) : (l ++ t).getD j d = x := by
  obtain ⟨u, rfl⟩ := h
  subst hj
  simp
theorem pre_map {α β : Type} {f : α → β} {l m : List α} (h : l <+: m) : l.map f <+: m.map f := by
  obtain ⟨t, rfl⟩ := h
  rw [List.map_append]; exact List.prefix_append _ _
section
variable {n : Cnt} {C0 C : Ctx} {ρ : Nat → Nat}

structure Base (n : Cnt) (C0 C : Ctx) : Prop where
  ext : ExtL C0 C
  has : Has C0 n
theorem gotCtx_ext (C0 C : Ctx) (g : Got) : ExtL C0 (gotCtx C0 C g) := ((Ext.push C0 _).trans (Ext.heap _ _)).toExtL
theorem Base.agr (h : Base n C0 C) (g : Got) : Agr n (gotCtx C0 C g) C := by
  have h1 := (gotCtx_ext C0 C g).agr h.has
  have h2 := h.ext.agr h.has
  exact ⟨fun k hk => (h1.i k hk).symm.trans (h2.i k hk), fun k hk => (h1.b k hk).symm.trans (h2.b k hk), fun k hk => (h1.s k hk).symm.trans (h2.s k hk), fun k hk => (h1.v k hk).symm.trans (h2.v k hk), fun k hk => (h1.l k hk).symm.trans (h2.l k hk), fun k hk => (h1.p k hk).symm.trans (h2.p k hk)⟩

theorem matchC_sound (hB : Base n C0 C) {g g' : Got} {c e : CE} (h : matchC n g c e = some g') : GLe g g' ∧ ∀ G, GLe g' G → (∀ x ∈ G.v, x.plain = true) → c.den (gotCtx C0 C G) ρ = e.den C ρ := by
  unfold matchC at h
  split at h
  · rename_i k j k' e
    split at h
    · rename_i hj
      obtain ⟨hj, rfl⟩ := hj
      cases h
      refine ⟨⟨List.prefix_append _ _, List.prefix_refl _, List.prefix_refl _, List.prefix_refl _, List.prefix_refl _, List.prefix_refl _⟩, fun G hG _ => ?_⟩
      show Value.int k ((C0.i ++ G.i.map (IE.den C)).getD j 0) = _
      rw [getD_app_at (m := g.i.map (IE.den C)) (x := e.den C) (by rw [List.length_map, hB.has.i]; exact hj) (by have := pre_map (f := IE.den C) hG.i; simpa using this)]
      rfl
    · split at h
      · rename_i hq
        obtain ⟨rfl, rfl, hlt⟩ := hq
        cases h
        refine ⟨GLe.refl _, fun G _ _ => ?_⟩
        show Value.int k ((gotCtx C0 C G).i.getD j 0) = Value.int k (C.i.getD j 0)
        rw [(hB.agr G).i j hlt]
      · cases h
  · rename_i j e
    split at h
    · rename_i hj
      cases h
      refine ⟨⟨List.prefix_refl _, List.prefix_append _ _, List.prefix_refl _, List.prefix_refl _, List.prefix_refl _, List.prefix_refl _⟩, fun G hG _ => ?_⟩
      show Value.bool ((C0.b ++ G.b.map (BE.den C)).getD j false) = _
      rw [getD_app_at (m := g.b.map (BE.den C)) (x := e.den C) (by rw [List.length_map, hB.has.b]; exact hj) (by have := pre_map (f := BE.den C) hG.b; simpa using this)]
      rfl
    · split at h
      · rename_i hq
        obtain ⟨rfl, hlt⟩ := hq
        cases h
        refine ⟨GLe.refl _, fun G _ _ => ?_⟩
        show Value.bool ((gotCtx C0 C G).b.getD j false) = Value.bool (C.b.getD j false)
        rw [(hB.agr G).b j hlt]
      · cases h
  · rename_i j e
    split at h
    · rename_i hj
      cases h
      refine ⟨⟨List.prefix_refl _, List.prefix_refl _, List.prefix_append _ _, List.prefix_refl _, List.prefix_refl _, List.prefix_refl _⟩, fun G hG _ => ?_⟩
      show Value.string (B ((C0.s ++ G.s.map (SE.den C)).getD j [])) = _
      rw [getD_app_at (m := g.s.map (SE.den C)) (x := e.den C) (by rw [List.length_map, hB.has.s]; exact hj) (by have := pre_map (f := SE.den C) hG.s; simpa using this)]
      rfl
    · split at h
      · rename_i hq
        obtain ⟨rfl, hlt⟩ := hq
        cases h
        refine ⟨GLe.refl _, fun G _ _ => ?_⟩
        show Value.string (B ((gotCtx C0 C G).s.getD j [])) = Value.string (B (C.s.getD j []))
        rw [(hB.agr G).s j hlt]
      · cases h
  · rename_i j i
    split at h
    · rename_i hj
      cases h
      refine ⟨⟨List.prefix_refl _, List.prefix_refl _, List.prefix_refl _, List.prefix_append _ _, List.prefix_refl _, List.prefix_refl _⟩, fun G hG _ => ?_⟩
      show (C0.v ++ G.v.map (CE.den C noOwn)).getD j undef = _
      rw [getD_app_at (m := g.v.map (CE.den C noOwn)) (x := (CE.v i).den C noOwn) (by rw [List.length_map, hB.has.v]; exact hj) (by have := pre_map (f := CE.den C noOwn) hG.v; simpa using this)]
      rfl
    · split at h
      · rename_i hq
        obtain ⟨rfl, hlt⟩ := hq
        cases h
        exact ⟨GLe.refl _, fun G _ _ => (hB.agr G).v j hlt⟩
      · cases h
  · rename_i j x
    split at h
    · rename_i hj
      cases h
      refine ⟨⟨List.prefix_refl _, List.prefix_refl _, List.prefix_refl _, List.prefix_append _ _, List.prefix_refl _, List.prefix_refl _⟩, fun G hG _ => ?_⟩
      show (C0.v ++ G.v.map (CE.den C noOwn)).getD j undef = _
      rw [getD_app_at (m := g.v.map (CE.den C noOwn)) (x := (CE.c x).den C noOwn) (by rw [List.length_map, hB.has.v]; exact hj) (by have := pre_map (f := CE.den C noOwn) hG.v; simpa using this)]
      rfl
    · cases h
  · rename_i j e
    split at h
    · rename_i hj
      cases h
      refine ⟨⟨List.prefix_refl _, List.prefix_refl _, List.prefix_refl _, List.prefix_refl _, List.prefix_append _ _, List.prefix_refl _⟩, fun G hG _ => ?_⟩
      show ((C0.l ++ G.l.map (LE.den C)).getD j ⟨none, 0, 0⟩).val = _
      rw [getD_app_at (m := g.l.map (LE.den C)) (x := e.den C) (by rw [List.length_map, hB.has.l]; exact hj) (by have := pre_map (f := LE.den C) hG.l; simpa using this)]
      rfl
    · split at h
      · rename_i hq
        obtain ⟨rfl, hlt⟩ := hq
        cases h
        refine ⟨GLe.refl _, fun G _ _ => ?_⟩
        show ((gotCtx C0 C G).l.getD j ⟨none, 0, 0⟩).val = (C.l.getD j ⟨none, 0, 0⟩).val
        rw [(hB.agr G).l j hlt]
      · cases h
  · rename_i j i
    split at h
    · rename_i hj
      cases h
      refine ⟨⟨List.prefix_refl _, List.prefix_refl _, List.prefix_refl _, List.prefix_refl _, List.prefix_refl _, List.prefix_append _ _⟩, fun G hG _ => ?_⟩
      show Value.pointer (((C0.p ++ G.p.map fun c => ptrOf (c.den C noOwn)).getD j none).map fun x => ⟨x.1, x.2, none⟩) = _
      rw [getD_app_at (m := g.p.map fun c => ptrOf (c.den C noOwn)) (x := ptrOf ((CE.pt i).den C noOwn)) (by rw [List.length_map, hB.has.p]; exact hj) (by have := pre_map (f := fun c : CE => ptrOf (c.den C noOwn)) hG.p; simpa using this)]
      show Value.pointer ((ptrOf (Value.pointer ((C.p.getD i none).map fun x => ⟨x.1, x.2, none⟩))).map fun x => (⟨x.1, x.2, none⟩ : Addr)) = Value.pointer ((C.p.getD i none).map fun x => ⟨x.1, x.2, none⟩)
      cases C.p.getD i none <;> rfl
    · split at h
      · rename_i hq
        obtain ⟨rfl, hlt⟩ := hq
        cases h
        refine ⟨GLe.refl _, fun G _ _ => ?_⟩
        show Value.pointer (((gotCtx C0 C G).p.getD j none).map fun x => ⟨x.1, x.2, none⟩) = Value.pointer ((C.p.getD j none).map fun x => ⟨x.1, x.2, none⟩)
        rw [(hB.agr G).p j hlt]
      · cases h
  · rename_i j
    split at h
    · rename_i hj
      cases h
      refine ⟨⟨List.prefix_refl _, List.prefix_refl _, List.prefix_refl _, List.prefix_refl _, List.prefix_refl _, List.prefix_append _ _⟩, fun G hG _ => ?_⟩
      show Value.pointer (((C0.p ++ G.p.map fun c => ptrOf (c.den C noOwn)).getD j none).map fun x => ⟨x.1, x.2, none⟩) = _
      rw [getD_app_at (m := g.p.map fun c => ptrOf (c.den C noOwn)) (x := ptrOf ((CE.c .nilp).den C noOwn)) (by rw [List.length_map, hB.has.p]; exact hj) (by have := pre_map (f := fun c : CE => ptrOf (c.den C noOwn)) hG.p; simpa using this)]
      rfl
    · cases h
  · split at h
    · rename_i hq
      obtain ⟨rfl, hb⟩ := hq
      cases h
      exact ⟨GLe.refl _, fun G _ _ => c.den_blw (hB.agr G) ρ hb⟩
    · cases h
theorem matchL_sound (hB : Base n C0 C) : ∀ {cs es : List CE} {g g' : Got}, matchL n g cs es = some g' → GLe g g' ∧ ∀ G, GLe g' G → (∀ x ∈ G.v, x.plain = true) → cs.map (CE.den (gotCtx C0 C G) ρ) = es.map (CE.den C ρ) := by
  intro cs
  induction cs with
  | nil =>
    intro es g g' h
    cases es with
    | nil => cases h; exact ⟨GLe.refl _, fun _ _ _ => rfl⟩
    | cons _ _ => cases h
  | cons c cs ih =>
    intro es g g' h
    cases es with
    | nil => cases h
    | cons e es =>
      simp only [matchL, Option.bind_eq_some_iff] at h
      obtain ⟨g1, h1, h2⟩ := h
      obtain ⟨a1, b1⟩ := matchC_sound (ρ := ρ) hB h1
      obtain ⟨a2, b2⟩ := ih h2
      exact ⟨a1.trans a2, fun G hG hp => by rw [List.map_cons, List.map_cons, b1 G (a2.trans hG) hp, b2 G hG hp]⟩
theorem matchV_sound (hB : Base n C0 C) {g g' : Got} {c e : VE} (h : matchV n g c e = some g') : GLe g g' ∧ ∀ G, GLe g' G → (∀ x ∈ G.v, x.plain = true) → ∀ (t u : Array Value) x, e.holds C ρ t x → c.holds (gotCtx C0 C G) ρ u x := by
  unfold matchV at h
  split at h
  · cases h; exact ⟨GLe.refl _, fun _ _ _ _ _ _ _ => trivial⟩
  · obtain ⟨h1, h2⟩ := matchC_sound (ρ := ρ) hB h
    exact ⟨h1, fun G hG hp t u x hx => by show _ = _; rw [show PE.den (gotCtx C0 C G) ρ (.one _) = _ from h2 G hG hp]; exact hx⟩
  · obtain ⟨h1, h2⟩ := matchL_sound (ρ := ρ) hB h
    exact ⟨h1, fun G hG hp t u x hx => by show _ = Value.agg _; rw [h2 G hG hp]; exact hx⟩
  · cases h
theorem matchT_sound (hB : Base n C0 C) : ∀ {cs es : List VE} {g g' : Got}, matchT n g cs es = some g' → GLe g g' ∧ cs.length = es.length ∧ ∀ G, GLe g' G → (∀ x ∈ G.v, x.plain = true) → ∀ (t u : Array Value) (i : Nat) c, cs[i]? = some c → ∃ e, es[i]? = some e ∧ ∀ x, e.holds C ρ t x → c.holds (gotCtx C0 C G) ρ u x := by
  intro cs
  induction cs with
  | nil =>
    intro es g g' h
    cases es with
    | nil => cases h; exact ⟨GLe.refl _, rfl, fun _ _ _ _ _ _ _ h => by simp at h⟩
    | cons _ _ => cases h
  | cons c cs ih =>
    intro es g g' h
    cases es with
    | nil => cases h
    | cons e es =>
      simp only [matchT, Option.bind_eq_some_iff] at h
      obtain ⟨g1, h1, h2⟩ := h
      obtain ⟨a1, b1⟩ := matchV_sound (ρ := ρ) hB h1
      obtain ⟨a2, l2, b2⟩ := ih h2
      refine ⟨a1.trans a2, by simp [l2], fun G hG hp t u i d hd => ?_⟩
      cases i with
      | zero =>
        simp at hd; subst hd
        exact ⟨e, rfl, fun x hx => b1 G (a2.trans hG) hp t u x hx⟩
      | succ i => exact b2 G hG hp t u i d (by simpa using hd)
theorem matchM_sound (hB : Base n C0 C) : ∀ {cs es : List Blk} {g g' : Got}, matchM n g cs es = some g' → GLe g g' ∧ cs.length ≤ es.length ∧ ∀ G, GLe g' G → (∀ x ∈ G.v, x.plain = true) → ∀ (k : Nat) c, cs[k]? = some c → ∃ e, es[k]? = some e ∧ c.ty = e.ty ∧ c.cells.map (CE.den (gotCtx C0 C G) ρ) = e.cells.map (CE.den C ρ) := by
  intro cs
  induction cs with
  | nil => intro es g g' h; cases h; exact ⟨GLe.refl _, Nat.zero_le _, fun _ _ _ _ _ h => by simp at h⟩
  | cons c cs ih =>
    intro es g g' h
    cases es with
    | nil => cases h
    | cons e es =>
      simp only [matchM] at h
      split at h
      · rename_i hty
        simp only [Option.bind_eq_some_iff] at h
        obtain ⟨g1, h1, h2⟩ := h
        obtain ⟨a1, b1⟩ := matchL_sound (ρ := ρ) hB h1
        obtain ⟨a2, l2, b2⟩ := ih h2
        refine ⟨a1.trans a2, by simp; exact l2, fun G hG hp k d hd => ?_⟩
        cases k with
        | zero =>
          simp at hd; subst hd
          exact ⟨e, rfl, hty, b1 G (a2.trans hG) hp⟩
        | succ k => exact b2 G hG hp k d (by simpa using hd)
      · cases h
end

section
variable {P : Program} {E : Env} {B : Nat} {h0 : Hp} {w0 : World} {ρ : Nat → Nat} {st : St} {C : Ctx} {a : Act} {w : World}

theorem fits_ones {g : Got} {st : St} (R : Rep B h0 w0 ρ st C a w) (hf : g.fits st.n = true) : (∀ x ∈ g.v, x.plain = true) ∧ Ones (g.v.map (CE.den C noOwn)) := by
  unfold Got.fits at hf
  have h := List.all_eq_true.1 hf
  refine ⟨fun x hx => ?_, fun u hu => ?_⟩
  · have := h x hx
    simp only [Bool.and_eq_true] at this
    exact this.1
  · obtain ⟨c, hc, rfl⟩ := List.mem_map.1 hu
    have := h c hc
    simp only [CE.sto, Bool.and_eq_true, decide_eq_true_eq, Bool.not_eq_true'] at this
    exact ce_one R.ones noOwn c st.n R.cv.symm this.2.1.1 this.2.1.2 this.2.2
theorem Got.den_cnt (g : Got) (C : Ctx) : (g.den C).cnt = g.cnt := by simp [Got.den, Got.cnt, Inc.cnt]
/-- What stands for a round's end stands for the head, at what the names have become. -/
theorem match_rep {C0 : Ctx} {n : Cnt} {hd st : St} {g : Got} (R : Rep B h0 w0 ρ st C a w) (hB : Base n C0 C) (ho0 : Ones C0.v) (h : matchSt n hd st = some g) (hf : g.fits st.n = true) (hn : hd.n = n.add g.cnt) : Rep B h0 w0 ρ hd (gotCtx C0 C g) a w := by
  unfold matchSt at h
  simp only [Option.bind_eq_some_iff] at h
  obtain ⟨g1, h1, h2⟩ := h
  obtain ⟨a1, l1, b1⟩ := matchT_sound (ρ := ρ) hB h1
  obtain ⟨a2, l2, b2⟩ := matchM_sound (ρ := ρ) hB h2
  obtain ⟨hp, hones⟩ := fits_ones R hf
  have H : Has (gotCtx C0 C g) hd.n := (hB.has.push (by rw [Got.den_cnt]; exact hn.symm)).heap _
  refine ⟨R.defers, by rw [R.size, l1], ?_, ?_, fun k hk => R.fresh k (by omega), fun k j hk hj => R.inj k j (by omega) (by omega), fun k hk => R.free k (by omega), R.holds, R.fr, R.base, H.i, H.b, H.s, H.v, H.l, H.p, ones_push ho0 hones⟩
  · intro i v hv
    obtain ⟨e, he, hh⟩ := b1 g a2 hp a.tmps a.tmps i v hv
    exact hh _ (R.slots i e he)
  · intro k b hb
    obtain ⟨e, he, hty, hc⟩ := b2 g (GLe.refl _) hp k b hb
    rw [R.blocks k e he, hty, hc]

/-! ### Code -/
/-- What follows; l: the loops from there on may have been marked. -/
def After (E : Env) (B : Nat) (h0 : Hp) (w0 : World) (l : Nat) (C0 : Ctx) (K : Exit → St → Fm) (e : Exit) (a : Act) (w : World) : Prop :=
  ∃ ρ st D, ExtL C0 D ∧ (∀ k, k < l → D.m k = C0.m k) ∧ Rep B h0 w0 ρ st D a w ∧ (K e st).says E D
theorem After.ext {l l' : Nat} {C0 D : Ctx} {K : Exit → St → Fm} {e : Exit} (hx : ExtL C0 D) (hl : l ≤ l') (hm : ∀ k, k < l → D.m k = C0.m k) (h : After E B h0 w0 l' D K e a w) : After E B h0 w0 l C0 K e a w := by
  obtain ⟨ρ, st, F, h1, h2, h3, h4⟩ := h
  exact ⟨ρ, st, F, hx.trans h1, fun k hk => (h2 k (by omega)).trans (hm k hk), h3, h4⟩
theorem cut_ext {C D : Ctx} {n : Cnt} (hx : ExtL C D) (H : Has C n) : D.cut n = ⟨C.i, C.b, C.s, C.v, C.l, C.p, D.h, D.m⟩ := by
  obtain ⟨⟨t1, h1⟩, ⟨t2, h2⟩, ⟨t3, h3⟩, ⟨t4, h4⟩, ⟨t5, h5⟩, ⟨t6, h6⟩⟩ := hx
  obtain ⟨a1, a2, a3, a4, a5, a6⟩ := H
  cases C; cases D
  simp only at h1 h2 h3 h4 h5 h6 a1 a2 a3 a4 a5 a6
  subst h1 h2 h3 h4 h5 h6
  simp [Ctx.cut, ← a1, ← a2, ← a3, ← a4, ← a5, ← a6]
theorem ext_push {C D : Ctx} {n m k : Cnt} (hx : ExtL C D) (H : Has C n) (K : Has D m) (hm : m = n.add k) (ho : Ones D.v) : ∃ x : Inc, Same ((C.push x).heap D.h) D ∧ x.cnt = k ∧ Ones x.v := by
  obtain ⟨⟨t1, h1⟩, ⟨t2, h2⟩, ⟨t3, h3⟩, ⟨t4, h4⟩, ⟨t5, h5⟩, ⟨t6, h6⟩⟩ := hx
  obtain ⟨a1, a2, a3, a4, a5, a6⟩ := H
  obtain ⟨b1, b2, b3, b4, b5, b6⟩ := K
  subst hm
  cases C; cases D
  simp only at h1 h2 h3 h4 h5 h6 a1 a2 a3 a4 a5 a6
  subst h1 h2 h3 h4 h5 h6
  simp only [List.length_append, Cnt.add] at b1 b2 b3 b4 b5 b6
  refine ⟨⟨t1, t2, t3, t4, t5, t6⟩, ⟨rfl, rfl, rfl, rfl, rfl, rfl⟩, ?_, fun u hu => ho u (List.mem_append_right _ hu)⟩
  cases k
  simp only [Inc.cnt, Cnt.mk.injEq]
  simp only at b1 b2 b3 b4 b5 b6
  omega

/-- From the label on: what holds behind it. -/
def wpA (P : Program) : Code → (Exit → Act → World → Prop) → Act → World → Prop
  | .seq x y, Q, a, w => match hasL x with
    | some _ => wpA P x (Exit.then (y.wp P Q) Q) a w
    | none => wpA P y Q a w
  | .label _, Q, a, w => Q .normal a w
  | _, _, _, _ => False
theorem then_mono {Q Q' : Exit → Act → World → Prop} {K K' : Act → World → Prop} (hq : ∀ e a w, Q e a w → Q' e a w) (hk : ∀ a w, K a w → K' a w) : ∀ e a w, Exit.then K Q e a w → Exit.then K' Q' e a w := by
  intro e a w h
  cases e with
  | normal => exact hk a w h
  | exit id => exact hq _ a w h
  | goto l => exact hq _ a w h
  | ret => exact hq _ a w h
  | panic ch => exact hq _ a w h
  | outgrown => exact hq _ a w h
theorem wpA_mono (c : Code) : ∀ {Q Q' : Exit → Act → World → Prop} {a : Act} {w : World}, wpA P c Q a w → (∀ e a w, Q e a w → Q' e a w) → wpA P c Q' a w := by
  induction c with
  | seq x y ihx ihy =>
    intro Q Q' a w h hq
    rw [wpA] at h ⊢
    split at h
    · exact ihx h (then_mono hq (fun a w h => wp_mono h hq))
    · exact ihy h hq
  | label l => intro Q Q' a w h hq; exact hq _ a w h
  | _ => intro Q Q' a w h hq; exact h.elim
theorem hasL_find (c : Code) : ∀ {l : Nat}, hasL c = some l → ∃ rest, findLabel c l = some rest := by
  induction c with
  | seq x y ihx ihy =>
    intro l h
    rw [hasL] at h
    split at h
    · rename_i l' hx
      cases h
      obtain ⟨r, hr⟩ := ihx hx
      exact ⟨_, by rw [findLabel, hr]⟩
    · rename_i hx
      obtain ⟨r, hr⟩ := ihy h
      rw [findLabel]
      cases hq : findLabel x l with
      | some r' => exact ⟨_, rfl⟩
      | none => exact ⟨r, hr⟩
  | label m => intro l h; cases h; exact ⟨.skip, by simp [findLabel]⟩
  | _ => intro l h; cases h
theorem find_hasL (c : Code) : ∀ {l : Nat}, hasL c = none → findLabel c l = none := by
  induction c with
  | seq x y ihx ihy =>
    intro l h
    rw [hasL] at h
    split at h
    · cases h
    · rename_i hx
      rw [findLabel, ihx hx]
      exact ihy h
  | label m => intro l h; cases h
  | _ => intro l h; rfl
theorem wpA_find (c : Code) : ∀ {Q : Exit → Act → World → Prop} {a : Act} {w : World} {l : Nat} {rest : Code}, wpA P c Q a w → hasL c = some l → findLabel c l = some rest → rest.wp P Q a w := by
  induction c with
  | seq x y ihx ihy =>
    intro Q a w l rest h hl hf
    rw [wpA] at h
    rw [hasL] at hl
    rw [findLabel] at hf
    split at h
    · rename_i l' hx
      rw [hx] at hl
      cases hl
      obtain ⟨r, hr⟩ := hasL_find x hx
      rw [hr] at hf
      cases hf
      exact wp_seq (ihx h hx hr)
    · rename_i hx
      rw [hx] at hl
      rw [find_hasL x hx] at hf
      exact ihy h hl hf
  | label m =>
    intro Q a w l rest h hl hf
    cases hl
    simp [findLabel] at hf
    subst hf
    exact wp_skip h
  | _ => intro Q a w l rest h; exact h.elim

/-- A loop's round is over. -/
theorem again_sound {C0 : Ctx} {st0 : St} {A : LAnn} {l : Nat} {D D' : Ctx} {st' : St} (H0 : Has C0 st0.n) (ho0 : Ones C0.v) (hx : ExtL C0 D) (hx' : ExtL D D') (R' : Rep B h0 w0 ρ st' D' a w)
    (hm : D'.m l = E.meas l D.bare) (hs : (againF l st0.n (headSt A st0) st').says E D') :
    ∃ F, ExtL C0 F ∧ F.m = C0.m ∧ Rep B h0 w0 ρ (headSt A st0) F a w ∧ E.inv l F.bare ∧ E.meas l F.bare < E.meas l D.bare := by
  unfold againF at hs
  split at hs
  · rename_i g' hg'
    split at hs
    · exact hs.elim
    · rename_i hck'
      simp only [Bool.not_eq_true, Bool.not_eq_false', Bool.and_eq_true, decide_eq_true_eq] at hck'
      obtain ⟨hinv', hmeas⟩ := hs
      have e1 := cut_ext (hx.trans hx') H0
      have hB' : Base st0.n C0 D' := ⟨hx.trans hx', H0⟩
      have R2 := match_rep R' hB' ho0 hg' hck'.1 hck'.2
      have e2 : ((D'.cut st0.n).push (g'.den D')).bare = (gotCtx C0 D' g').bare := by rw [e1]; rfl
      rw [e2] at hinv' hmeas
      exact ⟨_, gotCtx_ext _ _ _, rfl, R2, hinv', by rw [← hm]; exact hmeas⟩
  · exact hs.elim
/-- A loop begins. -/
theorem loop_sound {A : LAnn} {l : Nat} {F : St → Fm} (R : Rep B h0 w0 ρ st C a w) (hs : (loopF l A st F).says E C) :
    ∃ D, ExtL C D ∧ D.m = C.m ∧ Rep B h0 w0 ρ (headSt A st) D a w ∧ E.inv l D.bare ∧ ∀ ρ D a w, ExtL C D → D.m = C.m → Rep B h0 w0 ρ (headSt A st) D a w → E.inv l D.bare → (F (headSt A st)).says E (D.mark l (E.meas l D.bare)) := by
  unfold loopF at hs
  split at hs
  · rename_i g hg
    split at hs
    · exact hs.elim
    · rename_i hck
      simp only [Bool.not_eq_true, Bool.not_eq_false', Bool.and_eq_true, decide_eq_true_eq] at hck
      obtain ⟨hfit, hn⟩ := hck
      obtain ⟨hinv, hall⟩ := hs
      have hB : Base st.n C C := ⟨ExtL.refl C, R.has⟩
      have R1 := match_rep R hB R.ones hg hfit hn
      refine ⟨_, gotCtx_ext _ _ _, rfl, R1, hinv, fun ρ D a w hx hm RD hi => ?_⟩
      rw [allI_iff] at hall
      obtain ⟨x, hDe, hxc, hxo⟩ := ext_push hx R.has RD.has hn RD.ones
      have e : (C.push x).heap D.h = D := by
        obtain ⟨e1, e2, e3, e4, e5, e6⟩ := hDe
        cases D
        simp only [Ctx.push, Ctx.heap] at e1 e2 e3 e4 e5 e6 hm ⊢
        subst hm
        simp only [e1, e2, e3, e4, e5, e6]
      have := hall x hxc hxo D.h
      rw [e] at this
      exact this hi
  · exact hs.elim
theorem mark_other (C : Ctx) {l n k : Nat} (h : k ≠ l) : (C.mark l n).m k = C.m k := by simp [Ctx.mark, h]
theorem mark_at (C : Ctx) (l n : Nat) : (C.mark l n).m l = n := by simp [Ctx.mark]
theorem Rep.mark (R : Rep B h0 w0 ρ st C a w) (l n : Nat) : Rep B h0 w0 ρ st (C.mark l n) a w := R.same ⟨rfl, rfl, rfl, rfl, rfl, rfl⟩ rfl
theorem ExtL.mark (C : Ctx) (l n : Nat) : ExtL C (C.mark l n) := ⟨List.prefix_refl _, List.prefix_refl _, List.prefix_refl _, List.prefix_refl _, List.prefix_refl _, List.prefix_refl _⟩
/-- A scope in which the run jumps back to one label, with a number that each pass lowers. -/
theorem wp_scope_ghost {Q : Exit → Act → World → Prop} {c rest : Code} (l : Nat) (I : Nat → Act → World → Prop) (hf : findLabel c l = some rest)
    (first : c.wp P (Exit.jump l (fun a w => ∃ n, I n a w) Q) a w)
    (pass : ∀ n a w, I n a w → rest.wp P (Exit.jump l (fun a' w' => ∃ n', n' < n ∧ I n' a' w') Q) a w) : (Code.scope c).wp P Q a w := by
  refine wp_scope_jumps l (fun a w => ∃ n, I n a w) (fun a w => leastOf (fun n => I n a w)) hf first ?_
  intro a w hI
  refine wp_mono (pass _ a w (leastOf_spec hI).1) ?_
  intro e a' w' hq
  cases e with
  | goto j =>
    obtain ⟨hj, n', hlt, hI'⟩ := hq
    exact ⟨hj, ⟨n', hI'⟩, Nat.lt_of_le_of_lt ((leastOf_spec ⟨n', hI'⟩).2 n' hI') hlt⟩
  | normal => exact hq
  | exit id => exact hq
  | ret => exact hq
  | panic ch => exact hq
  | outgrown => exact hq

theorem gen_sounds (hE : Good P E) (nw : Cfg) (A : Nat → LAnn) (c : Code) :
    (∀ (l : Nat) (st : St) (K : Exit → St → Fm) (ρ : Nat → Nat) (C : Ctx) (a : Act) (w : World), Rep B h0 w0 ρ st C a w → (gen nw P A c l st K).says E C → c.wp P (After E B h0 w0 l C K) a w) ∧
    (∀ (l : Nat) (st : St) (K : Exit → St → Fm) (ρ : Nat → Nat) (C : Ctx) (a : Act) (w : World) (Q : Exit → Act → World → Prop), Rep B h0 w0 ρ st C a w → (genB nw P A c l st K).says E C →
      (∀ ρ st D a w, ExtL C D → (∀ k, k < l → D.m k = C.m k) → Rep B h0 w0 ρ st D a w → (K .normal st).says E D → wpA P c Q a w) →
      (∀ e, e ≠ .normal → ∀ ρ st D a w, ExtL C D → (∀ k, k < l → D.m k = C.m k) → Rep B h0 w0 ρ st D a w → (K e st).says E D → Q e a w) → c.wp P Q a w) ∧
    (∀ (l : Nat) (st : St) (K : Exit → St → Fm) (ρ : Nat → Nat) (C : Ctx) (a : Act) (w : World), Rep B h0 w0 ρ st C a w → (genA nw P A c l st K).says E C → wpA P c (After E B h0 w0 l C K) a w) := by
  induction c with
  | skip => exact ⟨fun l st K ρ C a w R hs => wp_skip ⟨ρ, st, C, ExtL.refl C, fun _ _ => rfl, R, hs⟩, fun l st K ρ C a w Q R hs => (hs : False).elim, fun l st K ρ C a w R hs => (hs : False).elim⟩
  | region id ops draw =>
    refine ⟨?_, fun l st K ρ C a w Q R hs => (hs : False).elim, fun l st K ρ C a w R hs => (hs : False).elim⟩
    intro l st K ρ C a w R hs
    cases draw with
    | true =>
      simp only [gen] at hs
      split at hs
      · rename_i hm
        exact draw_sound hm hE R hs fun ρ st D a w hx R hs => ⟨ρ, st, D, hx.toExtL, fun _ _ => by rw [hx.m], R, hs⟩
      · exact (hs : False).elim
    | false =>
      refine wp_region_list ?_
      simp only [gen] at hs
      exact genOps_sound hE ops.toList R hs fun ρ st D a w hx R hs => ⟨ρ, st, D, hx.toExtL, fun _ _ => by rw [hx.m], R, hs⟩
  | seq x y ihx ihy =>
    have hgen : ∀ (l : Nat) (st : St) (K : Exit → St → Fm) (ρ : Nat → Nat) (C : Ctx) (a : Act) (w : World), Rep B h0 w0 ρ st C a w → (gen nw P A (.seq x y) l st K).says E C → (Code.seq x y).wp P (After E B h0 w0 l C K) a w := by
      intro l st K ρ C a w R hs
      rw [gen] at hs
      refine wp_seq ?_
      refine wp_mono (ihx.1 l st _ ρ C a w R hs) ?_
      rintro e a w ⟨ρ, st, D, hx, hm, R, hs⟩
      cases e with
      | normal => exact wp_mono (ihy.1 _ st K ρ D a w R hs) fun e a w h => h.ext hx (by omega) hm
      | exit id => exact ⟨ρ, st, D, hx, hm, R, hs⟩
      | goto l => exact ⟨ρ, st, D, hx, hm, R, hs⟩
      | ret => exact ⟨ρ, st, D, hx, hm, R, hs⟩
      | panic ch => exact ⟨ρ, st, D, hx, hm, R, hs⟩
      | outgrown => exact ⟨ρ, st, D, hx, hm, R, hs⟩
    refine ⟨hgen, ?_, ?_⟩
    · intro l st K ρ C a w Q R hs hn ho
      rw [genB] at hs
      refine wp_seq ?_
      split at hs
      · rename_i l' hl
        refine ihx.2.1 l st K ρ C a w _ R hs (fun ρ st D a w hx hm R hs => ?_) (fun e he ρ st D a w hx hm R hs => ?_)
        · have := hn ρ st D a w hx hm R hs
          rw [wpA, hl] at this
          exact this
        · have := ho e he ρ st D a w hx hm R hs
          cases e with
          | normal => exact absurd rfl he
          | exit id => exact this
          | goto l => exact this
          | ret => exact this
          | panic ch => exact this
          | outgrown => exact this
      · rename_i hl
        refine wp_mono (ihx.1 l st _ ρ C a w R hs) ?_
        rintro e a w ⟨ρ, st, D, hx, hm, R, hs⟩
        cases e with
        | normal =>
          refine ihy.2.1 _ st K ρ D a w Q R hs (fun ρ st F a w hx2 hm2 R hs => ?_) (fun e he ρ st F a w hx2 hm2 R hs => ho e he ρ st F a w (hx.trans hx2) (fun k hk => (hm2 k (by omega)).trans (hm k hk)) R hs)
          have := hn ρ st F a w (hx.trans hx2) (fun k hk => (hm2 k (by omega)).trans (hm k hk)) R hs
          rw [wpA, hl] at this
          exact this
        | exit id => exact ho _ (by simp) ρ st D a w hx hm R hs
        | goto l => exact ho _ (by simp) ρ st D a w hx hm R hs
        | ret => exact ho _ (by simp) ρ st D a w hx hm R hs
        | panic ch => exact ho _ (by simp) ρ st D a w hx hm R hs
        | outgrown => exact ho _ (by simp) ρ st D a w hx hm R hs
    · intro l st K ρ C a w R hs
      rw [genA] at hs
      rw [wpA]
      split at hs
      · rename_i l' hl
        rw [hl]
        refine wpA_mono x (ihx.2.2 l st _ ρ C a w R hs) ?_
        rintro e a w ⟨ρ, st, D, hx, hm, R, hs⟩
        cases e with
        | normal => exact wp_mono (ihy.1 _ st K ρ D a w R hs) fun e a w h => h.ext hx (by omega) hm
        | exit id => exact ⟨ρ, st, D, hx, hm, R, hs⟩
        | goto l => exact ⟨ρ, st, D, hx, hm, R, hs⟩
        | ret => exact ⟨ρ, st, D, hx, hm, R, hs⟩
        | panic ch => exact ⟨ρ, st, D, hx, hm, R, hs⟩
        | outgrown => exact ⟨ρ, st, D, hx, hm, R, hs⟩
      · rename_i hl
        rw [hl]
        exact wpA_mono y (ihy.2.2 _ st K ρ C a w R hs) fun e a w h => h.ext (ExtL.refl C) (by omega) (fun _ _ => rfl)
  | cond c x y ihx ihy =>
    refine ⟨?_, fun l st K ρ C a w Q R hs => (hs : False).elim, fun l st K ρ C a w R hs => (hs : False).elim⟩
    intro l st K ρ C a w R hs
    simp only [gen] at hs
    split at hs
    · rename_i hc
      have := opd_eval R (conds_nil _) hc
      exact wp_cond_true this (ihx.1 l st K ρ C a w R hs)
    · rename_i hc
      have := opd_eval R (conds_nil _) hc
      exact wp_cond_false this (wp_mono (ihy.1 _ st K ρ C a w R hs) fun e a w h => h.ext (ExtL.refl C) (by omega) (fun _ _ => rfl))
    · rename_i e h1 h2 hc
      have := opd_eval R (conds_nil _) hc
      exact wp_cond_split this (fun ht => ihx.1 l st K ρ C a w R (hs.1 ht)) (fun hf => wp_mono (ihy.1 _ st K ρ C a w R (hs.2 hf)) fun e a w h => h.ext (ExtL.refl C) (by omega) (fun _ _ => rfl))
    · exact hs.elim
  | block id c ih =>
    refine ⟨?_, fun l st K ρ C a w Q R hs => (hs : False).elim, fun l st K ρ C a w R hs => (hs : False).elim⟩
    intro l st K ρ C a w R hs
    rw [gen] at hs
    refine wp_block ?_
    refine wp_mono (ih.1 l st _ ρ C a w R hs) ?_
    rintro e a w ⟨ρ, st, D, hx, hm, R, hs⟩
    cases e with
    | exit j =>
      simp only [Exit.inBlock]
      simp only at hs
      split at hs
      · rename_i h; rw [if_pos h]; exact ⟨ρ, st, D, hx, hm, R, hs⟩
      · rename_i h; rw [if_neg h]; exact ⟨ρ, st, D, hx, hm, R, hs⟩
    | normal => exact ⟨ρ, st, D, hx, hm, R, hs⟩
    | goto l => exact ⟨ρ, st, D, hx, hm, R, hs⟩
    | ret => exact ⟨ρ, st, D, hx, hm, R, hs⟩
    | panic ch => exact ⟨ρ, st, D, hx, hm, R, hs⟩
    | outgrown => exact ⟨ρ, st, D, hx, hm, R, hs⟩
  | loop c ih =>
    refine ⟨?_, fun l st K ρ C a w Q R hs => (hs : False).elim, fun l st K ρ C a w R hs => (hs : False).elim⟩
    intro l st K ρ C a w R hs
    rw [gen] at hs
    obtain ⟨D0, hx0, hm0, R0, hi0, hbody⟩ := loop_sound R hs
    refine wp_loop_ghost (fun m a w => ∃ ρ D, ExtL C D ∧ D.m = C.m ∧ Rep B h0 w0 ρ (headSt (A l) st) D a w ∧ E.inv l D.bare ∧ E.meas l D.bare = m) (E.meas l D0.bare) ⟨ρ, D0, hx0, hm0, R0, hi0, rfl⟩ ?_
    rintro m a w ⟨ρ, D, hx, hmD, RD, hi, rfl⟩
    refine wp_mono (ih.1 (l + 1) _ _ ρ (D.mark l (E.meas l D.bare)) a w (RD.mark _ _) (hbody ρ D a w hx hmD RD hi)) ?_
    rintro e a w ⟨ρ, st', D', hx', hm', R', hs'⟩
    have hxD' : ExtL D D' := (ExtL.mark D _ _).trans hx'
    have hmm : ∀ k, k < l → D'.m k = C.m k := fun k hk => by rw [hm' k (by omega), mark_other D (by omega), hmD]
    cases e with
    | normal =>
      obtain ⟨F, h1, h1', h2, h3, h4⟩ := again_sound R.has R.ones hx hxD' R' (by rw [hm' l (by omega), mark_at]) hs'
      exact ⟨_, h4, ρ, F, h1, h1', h2, h3, rfl⟩
    | exit id => exact ⟨ρ, st', D', hx.trans hxD', hmm, R', hs'⟩
    | goto l => exact ⟨ρ, st', D', hx.trans hxD', hmm, R', hs'⟩
    | ret => exact ⟨ρ, st', D', hx.trans hxD', hmm, R', hs'⟩
    | panic ch => exact ⟨ρ, st', D', hx.trans hxD', hmm, R', hs'⟩
    | outgrown => exact ⟨ρ, st', D', hx.trans hxD', hmm, R', hs'⟩
  | scope c ih =>
    refine ⟨?_, fun l st K ρ C a w Q R hs => (hs : False).elim, fun l st K ρ C a w R hs => (hs : False).elim⟩
    intro l st K ρ C a w R hs
    rw [gen] at hs
    split at hs
    · exact hs.elim
    · rename_i lb hlb
      obtain ⟨rest, hf⟩ := hasL_find c hlb
      -- what holds at the label
      let I : Nat → Act → World → Prop := fun m a w => ∃ st1 C1 ρ D, ExtL C C1 ∧ (∀ k, k < l → C1.m k = C.m k) ∧ Has C1 st1.n ∧ Ones C1.v ∧ ExtL C1 D ∧ D.m = C1.m ∧ Rep B h0 w0 ρ (headSt (A l) st1) D a w ∧ E.inv l D.bare ∧ E.meas l D.bare = m ∧
        ∀ ρ D a w, ExtL C1 D → D.m = C1.m → Rep B h0 w0 ρ (headSt (A l) st1) D a w → E.inv l D.bare → (genA nw P A c (l + 1) (headSt (A l) st1) fun e st' => match e with
          | .goto j => if j = lb then againF l st1.n (headSt (A l) st1) st' else .ff
          | e => K e st').says E (D.mark l (E.meas l D.bare))
      have pass : ∀ m a w, I m a w → wpA P c (Exit.jump lb (fun a' w' => ∃ n', n' < m ∧ I n' a' w') (After E B h0 w0 l C K)) a w := by
        rintro m a w ⟨st1, C1, ρ, D, hC1, hmC, H1, ho1, hx, hmD, RD, hi, rfl, hbody⟩
        refine wpA_mono c (ih.2.2 (l + 1) _ _ ρ (D.mark l (E.meas l D.bare)) a w (RD.mark _ _) (hbody ρ D a w hx hmD RD hi)) ?_
        rintro e a w ⟨ρ, st', D', hx', hm', R', hs'⟩
        have hxD' : ExtL D D' := (ExtL.mark D _ _).trans hx'
        have hmm : ∀ k, k < l → D'.m k = C.m k := fun k hk => by rw [hm' k (by omega), mark_other D (by omega), hmD, hmC k hk]
        cases e with
        | goto j =>
          simp only at hs'
          split at hs'
          · rename_i hj
            obtain ⟨F, h1, h1', h2, h3, h4⟩ := again_sound H1 ho1 hx hxD' R' (by rw [hm' l (by omega), mark_at]) hs'
            exact ⟨hj, _, h4, st1, C1, ρ, F, hC1, hmC, H1, ho1, h1, h1', h2, h3, rfl, hbody⟩
          · exact (hs' : False).elim
        | normal => exact ⟨ρ, st', D', (hC1.trans hx).trans hxD', hmm, R', hs'⟩
        | exit id => exact ⟨ρ, st', D', (hC1.trans hx).trans hxD', hmm, R', hs'⟩
        | ret => exact ⟨ρ, st', D', (hC1.trans hx).trans hxD', hmm, R', hs'⟩
        | panic ch => exact ⟨ρ, st', D', (hC1.trans hx).trans hxD', hmm, R', hs'⟩
        | outgrown => exact ⟨ρ, st', D', (hC1.trans hx).trans hxD', hmm, R', hs'⟩
      refine wp_scope_ghost lb I hf ?_ (fun m a w hI => wpA_find c (pass m a w hI) hlb hf)
      refine ih.2.1 (l + 1) st _ ρ C a w _ R hs (fun ρ st1 C1 a w hx hm1 R1 hs1 => ?_) (fun e he ρ st1 C1 a w hx hm1 R1 hs1 => ?_)
      · obtain ⟨D0, hx0, hm0, R0, hi0, hbody⟩ := loop_sound R1 hs1
        refine wpA_mono c (pass _ a w ⟨st1, C1, ρ, D0, hx, fun k hk => hm1 k (by omega), R1.has, R1.ones, hx0, hm0, R0, hi0, rfl, hbody⟩) ?_
        intro e a w h
        cases e with
        | goto j => exact ⟨h.1, h.2.choose, h.2.choose_spec.2⟩
        | normal => exact h
        | exit id => exact h
        | ret => exact h
        | panic ch => exact h
        | outgrown => exact h
      · cases e with
        | normal => exact absurd rfl he
        | goto j => exact (hs1 : False).elim
        | exit id => exact ⟨ρ, st1, C1, hx, fun k hk => hm1 k (by omega), R1, hs1⟩
        | ret => exact ⟨ρ, st1, C1, hx, fun k hk => hm1 k (by omega), R1, hs1⟩
        | panic ch => exact ⟨ρ, st1, C1, hx, fun k hk => hm1 k (by omega), R1, hs1⟩
        | outgrown => exact ⟨ρ, st1, C1, hx, fun k hk => hm1 k (by omega), R1, hs1⟩
  | exit id => exact ⟨fun l st K ρ C a w R hs => wp_exit ⟨ρ, st, C, ExtL.refl C, fun _ _ => rfl, R, hs⟩, fun l st K ρ C a w Q R hs => (hs : False).elim, fun l st K ρ C a w R hs => (hs : False).elim⟩
  | ret => exact ⟨fun l st K ρ C a w R hs => wp_ret ⟨ρ, st, C, ExtL.refl C, fun _ _ => rfl, R, hs⟩, fun l st K ρ C a w Q R hs => (hs : False).elim, fun l st K ρ C a w R hs => (hs : False).elim⟩
  | rangeFunc f p x y _ _ => exact ⟨fun l st K ρ C a w R hs => (hs : False).elim, fun l st K ρ C a w Q R hs => (hs : False).elim, fun l st K ρ C a w R hs => (hs : False).elim⟩
  | label m =>
    refine ⟨fun l st K ρ C a w R hs => (hs : False).elim, fun l st K ρ C a w Q R hs hn ho => ?_, fun l st K ρ C a w R hs => ?_⟩
    · exact wp_label (hn ρ st C a w (ExtL.refl C) (fun _ _ => rfl) R hs)
    · exact ⟨ρ, st, C, ExtL.refl C, fun _ _ => rfl, R, hs⟩
  | goto m => exact ⟨fun l st K ρ C a w R hs => wp_goto ⟨ρ, st, C, ExtL.refl C, fun _ _ => rfl, R, hs⟩, fun l st K ρ C a w Q R hs => (hs : False).elim, fun l st K ρ C a w R hs => (hs : False).elim⟩
  | refuse s => exact ⟨fun l st K ρ C a w R hs => (hs : False).elim, fun l st K ρ C a w Q R hs => (hs : False).elim, fun l st K ρ C a w R hs => (hs : False).elim⟩
theorem gen_sound (hE : Good P E) (nw : Cfg) (A : Nat → LAnn) (c : Code) (l : Nat) (st : St) (K : Exit → St → Fm) (ρ : Nat → Nat) (C : Ctx) (a : Act) (w : World) (R : Rep B h0 w0 ρ st C a w) (hs : (gen nw P A c l st K).says E C) :
    c.wp P (After E B h0 w0 l C K) a w := (gen_sounds hE nw A c).1 l st K ρ C a w R hs
end
end Go.Proofs.YthlakehilhpojaaGreatDoor
namespace Go.Proofs.YthlakehilhpojaaGreatDoor
open Go.RowKit

section
variable {P : Program} {E : Env} {B : Nat} {h0 : Hp} {w0 : World} {ρ : Nat → Nat} {st : St} {C : Ctx} {a : Act} {w : World}
/-- A function's result, as the model takes it. -/
def resS (t : Array Value) : ResultVar → Sem Value
  | .tmp s => pure (t.getD s undef)
  | .cell x ty => do loadVar ty (← asAddr (t.getD x undef))
theorem results_eq (fn : Func) (t : Array Value) : results fn t = (do let vs ← fn.results.mapM (resS t); pure (if h : vs.size = 1 then vs[0] else .tuple vs)) := by
  unfold results
  congr 1
theorem resV_run (R : Rep B h0 w0 ρ st C a w) {r : ResultVar} {p : PE} (h : resV P st r = some p) : (resS a.tmps r).run P w = .ok (p.den C ρ) w := by
  cases r with
  | tmp t =>
    have e : a.tmps.getD t undef = p.den C ρ := opd_eval (x := .tmp t) R (conds_nil _) h
    simp only [resS, e, Sem.run_pure]
  | cell x t =>
    simp only [resV, Option.bind_eq_some_iff] at h
    obtain ⟨q, hq, hl⟩ := h
    have e : a.tmps.getD x undef = q.den C ρ := opd_eval (x := .tmp x) R (conds_nil _) hq
    have hrun := load_run R hl
    unfold loadE at hl
    split at hl
    · rename_i k o
      simp only [resS, e, PE.den, CE.den]
      exact hrun
    · cases hl
theorem resVs_run (R : Rep B h0 w0 ρ st C a w) : ∀ {rs : List ResultVar} {ps : List PE}, resVs P st rs = some ps → (rs.mapM (resS a.tmps)).run P w = .ok (ps.map (PE.den C ρ)) w := by
  intro rs
  induction rs with
  | nil => intro ps h; cases h; rfl
  | cons r rs ih =>
    intro ps h
    rw [resVs] at h
    split at h
    · rename_i x xs hx hxs
      cases h
      rw [List.mapM_cons, Sem.run_bind, resV_run R hx, Result.andThen_ok, Sem.run_bind, ih hxs, Result.andThen_ok]
      rfl
    · cases h
def resOf (C : Ctx) (ρ : Nat → Nat) : List PE → Value
  | [x] => x.den C ρ
  | xs => .tuple (xs.map (PE.den C ρ)).toArray
theorem results_run (R : Rep B h0 w0 ρ st C a w) {fn : Func} {ps : List PE} (h : resVs P st fn.results.toList = some ps) : (results fn a.tmps).run P w = .ok (resOf C ρ ps) w := by
  rw [results_eq, Sem.run_bind, Array.mapM_eq_mapM_toList]
  show ((do let x ← fn.results.toList.mapM (resS a.tmps); pure x.toArray : Sem (Array Value)).run P w).andThen _ = _
  rw [Sem.run_bind, resVs_run R h, Result.andThen_ok]
  simp only [Sem.run_pure, Result.andThen_ok]
  congr 1
  match ps with
  | [] => rfl
  | [x] => rfl
  | x :: y :: l => rw [dif_neg (by simp)]; rfl
theorem retE_sound (R : Rep B h0 w0 ρ st C a w) {fn : Func} (hs : (retE P fn st).says E C) : ∃ v, (results fn a.tmps).run P w = .ok v w ∧ E.post v C.h := by
  unfold retE at hs
  split at hs
  · rename_i x hx
    split at hs
    · rename_i hp
      refine ⟨_, results_run R hx, ?_⟩
      have : E.post (x.den C noOwn) C.h := hs
      rw [x.den_plain (σ := ρ) hp] at this
      exact this
    · exact hs.elim
  · rename_i xs hne hx
    split at hs
    · rename_i hp
      refine ⟨_, results_run R hx, ?_⟩
      have : E.post (.tuple (xs.map (PE.den C noOwn)).toArray) C.h := hs
      rw [show xs.map (PE.den C noOwn) = xs.map (PE.den C ρ) from List.map_congr_left fun x hx => PE.den_plain x (List.all_eq_true.1 hp x hx)] at this
      match xs, hne, this with
      | [], _, h => exact h
      | [y], hne, _ => exact absurd rfl (hne y)
      | x :: y :: l, _, h => exact h
    · exact hs.elim
  · exact hs.elim
end

/-- A FUNCTION's CONTRACT. -/
theorem by_formulaP {P : Program} {f : FuncId} {fn : Func} (hf : P.funcs[f]? = some fn) (nw : Cfg) (A : Nat → LAnn) {E : Env} (hE : Good P E) {fm : Fm} {ps : List PE} {n : Cnt} (hfm : genFnP nw P A fn ps n = fm)
    (C : Ctx) (hC : Has C n) (ho : Ones C.v)
    (h : fm.says E C) (w : World) (hH : Holds C.h w) {args : Array Value} (ha : args.toList = ps.map (PE.den C noOwn)) :
    Calls P f args w fun e w' => ∃ v k, e = .returned v ∧ E.post v k ∧ Holds k w' ∧ Fr w.heap.size C.h k w w' := by
  subst hfm
  unfold genFnP at h
  split at h
  · rename_i c hbody
    refine calls_of_wp hf hbody ?_
    have hsz : args.size = ps.length := by
      have := congrArg List.length ha
      simpa using this
    have R : Rep w.heap.size C.h w noOwn ⟨ps.map .p ++ List.replicate (fn.ntmps - ps.length) .dead, [], n⟩ C { tmps := args ++ Array.replicate (fn.ntmps - args.size) undef, defers := [] } w := by
      refine ⟨rfl, by simp [hsz], ?_, fun k b hk => by simp at hk, fun k hk => by simp at hk, fun k j hk => by simp at hk, fun k hk => by simp at hk, hH, Fr.refl _ _ _, Nat.le_refl _, hC.i, hC.b, hC.s, hC.v, hC.l, hC.p, ho⟩
      intro i v hiv
      by_cases hlt : i < ps.length
      · rw [List.getElem?_append_left (by simpa using hlt)] at hiv
        simp only [List.getElem?_map, List.getElem?_eq_getElem hlt, Option.map_some, Option.some.injEq] at hiv
        subst hiv
        show _ = _
        have hai : args.toList[i]? = some (ps[i].den C noOwn) := by rw [ha]; simp [hlt]
        have hax : args[i]? = some (ps[i].den C noOwn) := by simpa using hai
        rw [Array.getD_eq_getD_getElem?, Array.getElem?_append_left (by omega), hax]
        rfl
      · rw [List.getElem?_append_right (by simp; omega)] at hiv
        have := List.mem_of_getElem? hiv
        rw [List.eq_of_mem_replicate this]
        trivial
    refine wp_mono (gen_sound hE nw A c 0 _ _ noOwn C _ w R h) ?_
    rintro e a w' ⟨ρ, st, D, hx, _, R', hs'⟩
    cases e with
    | normal =>
      obtain ⟨v, h1, h2⟩ := retE_sound R' hs'
      exact ⟨R'.defers, v, h1, v, _, rfl, h2, R'.holds, R'.fr⟩
    | ret =>
      obtain ⟨v, h1, h2⟩ := retE_sound R' hs'
      exact ⟨R'.defers, v, h1, v, _, rfl, h2, R'.holds, R'.fr⟩
    | exit id => exact (hs' : False).elim
    | goto l => exact (hs' : False).elim
    | panic ch => exact (hs' : False).elim
    | outgrown => exact (hs' : False).elim
  · exact h.elim

theorem by_formula {P : Program} {f : FuncId} {fn : Func} (hf : P.funcs[f]? = some fn) (nw : Cfg) (A : Nat → LAnn) {E : Env} (hE : Good P E) {fm : Fm} (hfm : genFn nw P A fn = fm) {ps : List PE} {n : Cnt}
    (hp : freshPs P .zero fn.params.toList = some (ps, n)) (C : Ctx) (hC : Has C n) (ho : Ones C.v)
    (h : fm.says E C) (w : World) (hH : Holds C.h w) {args : Array Value} (ha : args.toList = ps.map (PE.den C noOwn)) :
    Calls P f args w fun e w' => ∃ v k, e = .returned v ∧ E.post v k ∧ Holds k w' ∧ Fr w.heap.size C.h k w w' := by
  refine by_formulaP hf nw A hE ?_ C hC ho h w hH ha
  unfold genFn at hfm
  rw [hp] at hfm
  exact hfm

/-! ### Callees -/
/-- What is known of a function: handed these, whatever φ asks of what it hands back is so. -/
structure Ct (P : Program) where
  f : FuncId
  spec : List Value → Hp → (Value → Hp → Prop) → Prop
  ok : ∀ args h φ w, spec args h φ → Holds h w → Calls P f args.toArray w fun e w' => ∃ v k, e = .returned v ∧ φ v k ∧ Holds k w' ∧ Fr w.heap.size h k w w'
def specOf {P : Program} : List (Ct P) → FuncId → List Value → Hp → (Value → Hp → Prop) → Prop
  | [], _, _, _, _ => False
  | c :: cs, f, args, h, φ => if c.f = f then c.spec args h φ else specOf cs f args h φ
theorem specOf_good {P : Program} (cs : List (Ct P)) : ∀ f args h φ w, specOf cs f args h φ → Holds h w → Calls P f args.toArray w fun e w' => ∃ v k, e = .returned v ∧ φ v k ∧ Holds k w' ∧ Fr w.heap.size h k w w' := by
  induction cs with
  | nil => intro f args hh φ w h; exact h.elim
  | cons c cs ih =>
    intro f args hh φ w h hH
    rw [specOf] at h
    split at h
    · rename_i hf
      subst hf
      exact c.ok args hh φ w h hH
    · exact ih f args hh φ w h hH
/-- A function that hands back one value, known. -/
theorem ct_value {P : Program} {f : FuncId} {args : Array Value} {w : World} {v : Value} {h : Hp} {φ : Value → Hp → Prop} (hc : Calls P f args w fun e w' => e = .returned v ∧ Below w.heap.size w w') (hφ : φ v h) (hH : Holds h w) :
    Calls P f args w fun e w' => ∃ v k, e = .returned v ∧ φ v k ∧ Holds k w' ∧ Fr w.heap.size h k w w' := hc.mono fun _ _ ⟨he, hb⟩ => ⟨v, h, he, hφ, hH.below hb, Fr.of_below hb⟩
theorem ct_same {P : Program} {f : FuncId} {args : Array Value} {w : World} {v : Value} {h : Hp} {φ : Value → Hp → Prop} (hc : Calls P f args w fun e w' => e = .returned v ∧ w = w') (hφ : φ v h) (hH : Holds h w) :
    Calls P f args w fun e w' => ∃ v k, e = .returned v ∧ φ v k ∧ Holds k w' ∧ Fr w.heap.size h k w w' := hc.mono fun _ _ ⟨he, hb⟩ => ⟨v, h, he, hφ, hb ▸ hH, hb ▸ Fr.refl _ _ _⟩
theorem B_inj {a b : List UInt8} : (B a = B b) = (a = b) := by
  apply propext
  constructor
  · intro h
    have := congrArg ByteArray.toList h
    rwa [B_toList, B_toList] at this
  · rintro rfl; rfl
end Go.Proofs.YthlakehilhpojaaGreatDoor
namespace Go.Proofs.YthlakehilhpojaaGreatDoor
open Go.RowKit

def noInv : Nat → Ctx → Prop := fun _ _ => False
def noMeas : Nat → Ctx → Nat := fun _ _ => 0
def noAnn : Nat → LAnn := fun _ => ⟨[], [], []⟩
theorem fr_noHeap {B : Nat} {k : Hp} {w u : World} (h : Fr B noHeap k w u) : Below B w u :=
  ⟨h.os, h.tape, h.output, h.size, fun i hi => h.block i hi rfl⟩
theorem holds_noHeap (w : World) : Holds noHeap w := fun _ _ h => by cases h
theorem by_fm {P : Program} {f : FuncId} {fn : Func} (hf : P.funcs[f]? = some fn) {nw : Cfg} {A : Nat → LAnn} {fm : Fm} (hfm : genFn nw P A fn = fm) {ps : List PE} {n : Cnt} (hp : freshPs P .zero fn.params.toList = some (ps, n))
    (cts : List (Ct P)) (post : Value → Hp → Prop) (inv : Nat → Ctx → Prop) (meas : Nat → Ctx → Nat) (C : Ctx) (hC : Has C n) (ho : Ones C.v) (h : fm.says ⟨specOf cts, post, inv, meas⟩ C) (w : World) (hH : Holds C.h w) {args : Array Value} (ha : args.toList = ps.map (PE.den C noOwn)) :
    Calls P f args w fun e w' => ∃ v k, e = .returned v ∧ post v k ∧ Holds k w' ∧ Fr w.heap.size C.h k w w' :=
  by_formula hf nw A (E := ⟨specOf cts, post, inv, meas⟩) (specOf_good cts) hfm hp C hC ho h w hH ha
theorem by_fmP {P : Program} {f : FuncId} {fn : Func} (hf : P.funcs[f]? = some fn) {nw : Cfg} {A : Nat → LAnn} {fm : Fm} {ps : List PE} {n : Cnt} (hfm : genFnP nw P A fn ps n = fm)
    (cts : List (Ct P)) (post : Value → Hp → Prop) (inv : Nat → Ctx → Prop) (meas : Nat → Ctx → Nat) (C : Ctx) (hC : Has C n) (ho : Ones C.v) (h : fm.says ⟨specOf cts, post, inv, meas⟩ C) (w : World) (hH : Holds C.h w) {args : Array Value} (ha : args.toList = ps.map (PE.den C noOwn)) :
    Calls P f args w fun e w' => ∃ v k, e = .returned v ∧ post v k ∧ Holds k w' ∧ Fr w.heap.size C.h k w w' :=
  by_formulaP hf nw A (E := ⟨specOf cts, post, inv, meas⟩) (specOf_good cts) hfm C hC ho h w hH ha
/-- A function that looks at no memory. -/
theorem by_fm0 {P : Program} {f : FuncId} {fn : Func} (hf : P.funcs[f]? = some fn) {nw : Cfg} {A : Nat → LAnn} {fm : Fm} (hfm : genFn nw P A fn = fm) {ps : List PE} {n : Cnt} (hp : freshPs P .zero fn.params.toList = some (ps, n))
    (cts : List (Ct P)) (r : Value) (inv : Nat → Ctx → Prop) (meas : Nat → Ctx → Nat) (C : Ctx) (hh : C.h = noHeap) (hC : Has C n) (ho : Ones C.v) (h : fm.says ⟨specOf cts, fun v _ => v = r, inv, meas⟩ C) (w : World) {args : Array Value} (ha : args.toList = ps.map (PE.den C noOwn)) :
    Calls P f args w fun e w' => e = .returned r ∧ Below w.heap.size w w' := by
  refine (by_fm hf hfm hp cts (fun v _ => v = r) inv meas C hC ho h w (by rw [hh]; exact holds_noHeap w) ha).mono ?_
  rintro e w' ⟨v, k, rfl, rfl, hH, hF⟩
  rw [hh] at hF
  exact ⟨rfl, fr_noHeap hF⟩
/-! ### What a formula says, a road at a time -/
theorem imp_ite {p : Bool} {a b : Prop} : ((p = true → a) ∧ (p = false → b)) = (if p = true then a else b) := by
  apply propext; cases p <;> simp
section
variable (E : Env) (C : Ctx)
theorem says_tt : Fm.tt.says E C = True := rfl
theorem says_ff : Fm.ff.says E C = False := rfl
theorem says_need (g c : BE) (k : Fm) : (Fm.need g c k).says E C = ((if g.den C = true then c.den C = true else True) ∧ k.says E C) := by
  show ((g.den C = true → c.den C = true) ∧ k.says E C) = _
  congr 1
  apply propext; cases g.den C <;> simp
theorem says_ite (b : BE) (t e : Fm) : (Fm.ite b t e).says E C = if b.den C = true then t.says E C else e.says E C := imp_ite
theorem says_call (g : BE) (m : Bool) (f : FuncId) (args : List PE) (r : VE) (d : Cnt) (k : Fm) : (Fm.call g m f args r d k).says E C =
    if g.den C = true then E.spec f (args.map (PE.den C noOwn)) C.h fun v h => (m = true → HLe C.h h) ∧ exI d fun x => v = r.den (C.push x) noOwn ∧ k.says E ((C.push x).heap h) else k.says E (C.push (Inc.blank d)) := imp_ite
theorem says_callK (g : BE) (ks : List (BE × AE × Nat)) (f : FuncId) (args : List PE) (r : VE) (d : Cnt) (k : Fm) : (Fm.callK g ks f args r d k).says E C =
    if g.den C = true then E.spec f (args.map (PE.den C noOwn)) C.h fun v h => (∀ x ∈ ks, x.1.den C = true → hread h (x.2.1.den C) x.2.2 = hread C.h (x.2.1.den C) x.2.2) ∧ exI d fun x => v = r.den (C.push x) noOwn ∧ k.says E ((C.push x).heap h) else k.says E (C.push (Inc.blank d)) := imp_ite
theorem says_load (g : BE) (a : AE) (n : Nat) (r : List CE) (d : Cnt) (k : Fm) : (Fm.load g a n r d k).says E C =
    if g.den C = true then exI d fun x => hread C.h (a.den C) n = some (r.map (CE.den (C.push x) noOwn)) ∧ k.says E (C.push x) else k.says E (C.push (Inc.blank d)) := imp_ite
theorem says_store (a : AE) (cs : List CE) (k : Fm) : (Fm.store a cs k).says E C = ∃ h, hwrite C.h (a.den C) (cs.map (CE.den C noOwn)) = some h ∧ k.says E (C.heap h) := rfl
theorem says_mk (cs : List CE) (ty : TypeId) (len : Nat) (k : Fm) : (Fm.mk cs ty len k).says E C = ∀ b, C.h b = none → k.says E ((C.push ⟨[], [], [], [], [⟨some (b, 0), len, len⟩], []⟩).heap (C.h.set b ⟨cs.map (CE.den C noOwn), ty⟩)) := rfl
theorem says_mks (n : IE) (z : CE) (ty : TypeId) (k : Fm) : (Fm.mks n z ty k).says E C = (0 ≤ n.den C ∧ n.den C ≤ 16777216 ∧ ∀ b, C.h b = none → k.says E ((C.push ⟨[], [], [], [], [⟨some (b, 0), (n.den C).toNat, (n.den C).toNat⟩], []⟩).heap (C.h.set b ⟨List.replicate (n.den C).toNat (z.den C noOwn), ty⟩))) := rfl
theorem says_new (cs : List CE) (ty : TypeId) (k : Fm) : (Fm.new cs ty k).says E C = ∀ b, C.h b = none → k.says E ((C.push ⟨[], [], [], [], [], [some (b, 0)]⟩).heap (C.h.set b ⟨cs.map (CE.den C noOwn), ty⟩)) := rfl
theorem says_str (l : LE) (k : Fm) : (Fm.str l k).says E C = ∃ bs, BytesAt C.h (l.den C) bs ∧ k.says E (C.push ⟨[], [], [bs], [], [], []⟩) := rfl
theorem says_ret (r : VE) : (Fm.ret r).says E C = E.post (r.den C noOwn) C.h := rfl
theorem says_again (o : Nat) (n0 n1 : Cnt) (g : Got) : (Fm.again o n0 n1 g).says E C = (E.inv o ((C.cut n0).push (g.den C)).bare ∧ E.meas o ((C.cut n0).push (g.den C)).bare < C.m o) := rfl
theorem says_app (s y : LE) (sz bytes : Nat) (ty : TypeId) (k : Fm) : (Fm.app s y sz bytes ty k).says E C = ∃ xs ys, OwnS C.h (s.den C) xs ty sz ∧ RdS C.h (y.den C) ys sz ∧ Ones ys ∧ (s.den C).n + (y.den C).n ≤ maxLen ∧ ((s.den C).n + (y.den C).n) * bytes ≤ 140737488355328 ∧
    ∀ s' h, OwnS h s' (xs ++ ys) ty sz → s'.n = (s.den C).n + (y.den C).n → (∀ x, s'.a = some x → (∃ z, (s.den C).a = some z ∧ z.1 = x.1) ∨ C.h x.1 = none) → (∀ b o, (∀ x, (s.den C).a = some x → x.1 ≠ b) → C.h b = some o → h b = some o) → k.says E ((C.push ⟨[], [], [], [], [s'], []⟩).heap h) := rfl
end
/-! ### A step at a time -/
/-- What is still to be reckoned. -/
def Then (E : Env) (k : Fm) (C : Ctx) : Prop := k.says E C
theorem then_step (E : Env) (k : Fm) (C : Ctx) : Then E k C = k.says E C := rfl
section
variable (E : Env) (C : Ctx)
theorem th_need (g c : BE) (k : Fm) : (Fm.need g c k).says E C = ((if g.den C = true then c.den C = true else True) ∧ Then E k C) := says_need E C g c k
theorem th_ite (b : BE) (t e : Fm) : (Fm.ite b t e).says E C = if b.den C = true then Then E t C else Then E e C := says_ite E C b t e
theorem th_call (g : BE) (m : Bool) (f : FuncId) (args : List PE) (r : VE) (d : Cnt) (k : Fm) : (Fm.call g m f args r d k).says E C =
    if g.den C = true then E.spec f (args.map (PE.den C noOwn)) C.h fun v h => (m = true → HLe C.h h) ∧ exI d fun x => v = r.den (C.push x) noOwn ∧ Then E k ((C.push x).heap h) else Then E k (C.push (Inc.blank d)) := says_call E C g m f args r d k
theorem th_callK (g : BE) (ks : List (BE × AE × Nat)) (f : FuncId) (args : List PE) (r : VE) (d : Cnt) (k : Fm) : (Fm.callK g ks f args r d k).says E C =
    if g.den C = true then E.spec f (args.map (PE.den C noOwn)) C.h fun v h => (∀ x ∈ ks, x.1.den C = true → hread h (x.2.1.den C) x.2.2 = hread C.h (x.2.1.den C) x.2.2) ∧ exI d fun x => v = r.den (C.push x) noOwn ∧ Then E k ((C.push x).heap h) else Then E k (C.push (Inc.blank d)) := says_callK E C g ks f args r d k
theorem th_load (g : BE) (a : AE) (n : Nat) (r : List CE) (d : Cnt) (k : Fm) : (Fm.load g a n r d k).says E C =
    if g.den C = true then exI d fun x => hread C.h (a.den C) n = some (r.map (CE.den (C.push x) noOwn)) ∧ Then E k (C.push x) else Then E k (C.push (Inc.blank d)) := says_load E C g a n r d k
theorem th_store (a : AE) (cs : List CE) (k : Fm) : (Fm.store a cs k).says E C = ∃ h, hwrite C.h (a.den C) (cs.map (CE.den C noOwn)) = some h ∧ Then E k (C.heap h) := rfl
theorem th_mk (cs : List CE) (ty : TypeId) (len : Nat) (k : Fm) : (Fm.mk cs ty len k).says E C = ∀ b, C.h b = none → Then E k ((C.push ⟨[], [], [], [], [⟨some (b, 0), len, len⟩], []⟩).heap (C.h.set b ⟨cs.map (CE.den C noOwn), ty⟩)) := rfl
theorem th_mks (n : IE) (z : CE) (ty : TypeId) (k : Fm) : (Fm.mks n z ty k).says E C = (0 ≤ n.den C ∧ n.den C ≤ 16777216 ∧ ∀ b, C.h b = none → Then E k ((C.push ⟨[], [], [], [], [⟨some (b, 0), (n.den C).toNat, (n.den C).toNat⟩], []⟩).heap (C.h.set b ⟨List.replicate (n.den C).toNat (z.den C noOwn), ty⟩))) := rfl
theorem th_new (cs : List CE) (ty : TypeId) (k : Fm) : (Fm.new cs ty k).says E C = ∀ b, C.h b = none → Then E k ((C.push ⟨[], [], [], [], [], [some (b, 0)]⟩).heap (C.h.set b ⟨cs.map (CE.den C noOwn), ty⟩)) := rfl
theorem th_str (l : LE) (k : Fm) : (Fm.str l k).says E C = ∃ bs, BytesAt C.h (l.den C) bs ∧ Then E k (C.push ⟨[], [], [bs], [], [], []⟩) := rfl
end
/-- A loop: its invariant at its head; then the body, at whatever the names are. -/
theorem loop_intro {E : Env} {o : Nat} {g : Got} {k : Fm} {C : Ctx} (h1 : E.inv o (C.push (g.den C)).bare)
    (h2 : ∀ i b s v l p h M, E.inv o ⟨i, b, s, v, l, p, h, noM⟩ → M o = E.meas o ⟨i, b, s, v, l, p, h, noM⟩ → k.says E ⟨i, b, s, v, l, p, h, M⟩) : (Fm.loop o g k).says E C := by
  refine ⟨h1, (allI_iff _ _).2 fun x _ _ h hi => ?_⟩
  exact h2 _ _ _ _ _ _ _ _ hi (by simp [Ctx.bare, Ctx.push, Ctx.heap])
theorem slc_val (x : Slc) (b o n c : Nat) : (Value.slice (some ⟨b, o, none⟩) n c = x.val) = (x = ⟨some (b, o), n, c⟩) := by
  apply propext
  cases x with
  | mk a m d =>
    cases a with
    | none => simp [Slc.val]
    | some q => cases q; simp [Slc.val]; constructor <;> (rintro ⟨⟨rfl, rfl⟩, rfl, rfl⟩; simp)
theorem slc_nil (x : Slc) (n c : Nat) : (Value.slice none n c = x.val) = (x = ⟨none, n, c⟩) := by
  apply propext
  cases x with
  | mk a m d =>
    cases a with
    | none => simp [Slc.val]; constructor <;> (rintro ⟨rfl, rfl⟩; simp)
    | some q => simp [Slc.val]
theorem slc_inj (x y : Slc) : (x.val = y.val) = (y = x) := by
  cases x with
  | mk a n c =>
    cases a with
    | none => exact slc_nil y n c
    | some q => exact slc_val y q.1 q.2 n c
theorem pt_val (p : Option (Nat × Nat)) (b o : Nat) : (Value.pointer (some ⟨b, o, none⟩) = Value.pointer (p.map fun x => ⟨x.1, x.2, none⟩)) = (p = some (b, o)) := by
  apply propext
  cases p with
  | none => simp
  | some q => cases q; simp; constructor <;> (rintro ⟨rfl, rfl⟩; simp)
theorem pt_nil (p : Option (Nat × Nat)) : (Value.pointer none = Value.pointer (p.map fun x => (⟨x.1, x.2, none⟩ : Addr))) = (p = none) := by
  apply propext
  cases p <;> simp
theorem hle_noHeap (h : Hp) : HLe noHeap h = True := eq_true fun _ _ h => by cases h
theorem hle_refl (h : Hp) : HLe h h = True := eq_true fun _ _ h => h
theorem hle_set {h : Hp} {b : Nat} (hb : h b = none) (o : HO) : HLe h (h.set b o) := fun k x hk => by
  simp only [Hp.set]
  rw [if_neg (fun e => by rw [e, hb] at hk; cases hk)]
  exact hk
theorem set_same (h : Hp) (b : Nat) (o : HO) : (h.set b o) b = some o := by simp [Hp.set]
theorem set_ne (h : Hp) {b k : Nat} (hk : k ≠ b) (o : HO) : (h.set b o) k = h k := by simp [Hp.set, hk]
theorem hread_set (h : Hp) (b : Nat) (o : HO) (off n : Nat) : hread (h.set b o) (some (b, off)) n = if off + n ≤ o.cs.length then some ((o.cs.drop off).take n) else none := by
  unfold hread; simp only [set_same]
theorem hread_of {h : Hp} {b : Nat} {o : HO} (hb : h b = some o) (off n : Nat) : hread h (some (b, off)) n = if off + n ≤ o.cs.length then some ((o.cs.drop off).take n) else none := by
  unfold hread; simp only [hb]
theorem hread_set_ne (h : Hp) {b c : Nat} (o : HO) (off n : Nat) (hc : c ≠ b) : hread (h.set b o) (some (c, off)) n = hread h (some (c, off)) n := by
  unfold hread; simp only [set_ne h hc]
theorem set_set (h : Hp) (b : Nat) (o o' : HO) : (h.set b o).set b o' = h.set b o' := by
  funext k; simp only [Hp.set]; split <;> rfl
theorem set_comm (h : Hp) {b c : Nat} (hc : b ≠ c) (o o' : HO) : (h.set b o).set c o' = (h.set c o').set b o := by
  funext k; simp only [Hp.set]; split <;> split <;> first | rfl | omega
theorem set_self {h : Hp} {b : Nat} {o : HO} (hb : h b = some o) : h = h.set b o := by
  funext k; simp only [Hp.set]; split
  · rename_i e; rw [e, hb]
  · rfl
theorem hwrite_set (h : Hp) (b : Nat) (o : HO) (off : Nat) (cs : List Value) : hwrite (h.set b o) (some (b, off)) cs = if off + cs.length ≤ o.cs.length then some (h.set b ⟨o.cs.take off ++ cs ++ o.cs.drop (off + cs.length), o.ty⟩) else none := by
  unfold hwrite; simp only [set_same, set_set]
/-- Known memory that nobody asks for any more is forgotten. -/
theorem ct_forget {P : Program} {f : FuncId} {args : Array Value} {w : World} {h : Hp} {φ : Value → Hp → Prop} {B : Nat} (hc : Calls P f args w fun e w' => ∃ v k, e = .returned v ∧ (∃ k', HLe k' k ∧ φ v k') ∧ Holds k w' ∧ Fr B h k w w') :
    Calls P f args w fun e w' => ∃ v k, e = .returned v ∧ φ v k ∧ Holds k w' ∧ Fr B h k w w' := by
  refine hc.mono ?_
  rintro e w' ⟨v, k, rfl, ⟨k', hl, hφ⟩, hH, hF⟩
  refine ⟨v, k', rfl, hφ, fun b o hb => hH b o (hl b o hb), ⟨hF.os, hF.tape, hF.output, hF.size, hF.block, fun c hc hn => ?_⟩⟩
  cases hq : k' c with
  | none => rfl
  | some o => have := hl c o hq; rw [hF.ghost c hc hn] at this; cases this
theorem noHeap_at (b : Nat) : noHeap b = none := rfl
theorem ones_nil : Ones [] := fun _ h => by cases h
/-- A formula's parts. -/
def Fm.k : Fm → Fm
  | .need _ _ k => k
  | .call _ _ _ _ _ _ k => k
  | .load _ _ _ _ _ k => k
  | .store _ _ k => k
  | .mk _ _ _ k => k
  | .loop _ _ k => k
  | .app _ _ _ _ _ k => k
  | .str _ k => k
  | .callK _ _ _ _ _ _ k => k
  | .new _ _ k => k
  | .mks _ _ _ k => k
  | .ite _ t _ => t
  | f => f
def Fm.e : Fm → Fm
  | .ite _ _ e => e
  | f => f
end Go.Proofs.YthlakehilhpojaaGreatDoor
namespace Go.Proofs.YthlakehilhpojaaGreatDoor
open Go.RowKit
attribute [local go_sem] Fm.says BE.den IE.den SE.den LE.den AE.den CE.den PE.den VE.den KV.val Got.den Got.cnt exI allI exL allL Ctx.push Ctx.heap Ctx.cut Ctx.bare Ctx.mark Inc.blank List.getD_cons_zero List.getD_cons_succ List.cons_append List.nil_append List.append_nil List.map_cons List.map_nil List.replicate_zero List.replicate_succ specOf ltB_t leB_t ltB_f leB_f slc_val slc_nil slc_inj pt_val pt_nil hle_noHeap hle_refl hread_set hwrite_set set_same set_set noHeap_at B_inj ones_nil and_assoc
def fm_small : Fm := (.ret (.p (.one (.b (.or (.and (.le (.c 97) (.x 0)) (.le (.x 0) (.c 122))) (.eqI (.x 0) (.c 95)))))))
theorem gen_small : genFn ⟨true, []⟩ Tryz.prog (fun l => ([] : List LAnn).getD l ⟨[], [], []⟩) Tryz.f39 = fm_small := by kernel_rfl
theorem ps_small : freshPs Tryz.prog .zero Tryz.f39.params.toList = some ([(.one (.i .u8 (.x 0)))], ⟨1, 0, 0, 0, 0, 0⟩) := by kernel_rfl
def fm_great : Fm := (.ret (.p (.one (.b (.and (.le (.c 65) (.x 0)) (.le (.x 0) (.c 90)))))))
theorem gen_great : genFn ⟨true, []⟩ Tryz.prog (fun l => ([] : List LAnn).getD l ⟨[], [], []⟩) Tryz.f40 = fm_great := by kernel_rfl
theorem ps_great : freshPs Tryz.prog .zero Tryz.f40.params.toList = some ([(.one (.i .u8 (.x 0)))], ⟨1, 0, 0, 0, 0, 0⟩) := by kernel_rfl
def fm_digit : Fm := (.ret (.p (.one (.b (.and (.le (.c 48) (.x 0)) (.le (.x 0) (.c 57)))))))
theorem gen_digit : genFn ⟨true, []⟩ Tryz.prog (fun l => ([] : List LAnn).getD l ⟨[], [], []⟩) Tryz.f42 = fm_digit := by kernel_rfl
theorem ps_digit : freshPs Tryz.prog .zero Tryz.f42.params.toList = some ([(.one (.i .u8 (.x 0)))], ⟨1, 0, 0, 0, 0, 0⟩) := by kernel_rfl
def fm_inner : Fm := (.call (.c true) false 39 [(.one (.i .u8 (.x 0)))] (.p (.one (.b (.x 0)))) ⟨0, 1, 0, 0, 0, 0⟩
  (.call (.not (.x 0)) false 40 [(.one (.i .u8 (.x 0)))] (.p (.one (.b (.x 1)))) ⟨0, 1, 0, 0, 0, 0⟩
  (.call (.not (.or (.x 0) (.x 1))) false 42 [(.one (.i .u8 (.x 0)))] (.p (.one (.b (.x 2)))) ⟨0, 1, 0, 0, 0, 0⟩
  (.ret (.p (.one (.b (.or (.or (.x 0) (.x 1)) (.x 2)))))))))
theorem gen_inner : genFn ⟨true, []⟩ Tryz.prog (fun l => ([] : List LAnn).getD l ⟨[], [], []⟩) Tryz.f69 = fm_inner := by kernel_rfl
theorem ps_inner : freshPs Tryz.prog .zero Tryz.f69.params.toList = some ([(.one (.i .u8 (.x 0)))], ⟨1, 0, 0, 0, 0, 0⟩) := by kernel_rfl
def fm_skip1 : Fm := (.ret (.p (.one (.b (.not (.eqI (.x 0) (.c 10)))))))
theorem gen_skip1 : genFn ⟨true, []⟩ Tryz.prog (fun l => ([] : List LAnn).getD l ⟨[], [], []⟩) Tryz.f68 = fm_skip1 := by kernel_rfl
theorem ps_skip1 : freshPs Tryz.prog .zero Tryz.f68.params.toList = some ([(.one (.i .u8 (.x 0)))], ⟨1, 0, 0, 0, 0, 0⟩) := by kernel_rfl
def fm_pass : Fm := (.need (.c true) (.nnp 0)
  (.need (.c true) (.nnp 0)
  (.load (.c true) (.pt 0 1) 1 [(.i .i64 (.x 1))] ⟨1, 0, 0, 0, 0, 0⟩
  (.need (.c true) (.and (.le (.c (-9223372036854775808)) (.add (.x 1) (.x 0))) (.le (.add (.x 1) (.x 0)) (.c 9223372036854775807)))
  (.need (.c true) (.nnp 0)
  (.need (.c true) (.nnp 0)
  (.store (.pt 0 1) [(.i .i64 (.add (.x 1) (.x 0)))]
  (.need (.c true) (.nnp 0)
  (.need (.c true) (.nnp 0)
  (.load (.c true) (.pt 0 3) 1 [(.i .i64 (.x 2))] ⟨1, 0, 0, 0, 0, 0⟩
  (.need (.c true) (.and (.le (.c (-9223372036854775808)) (.add (.x 2) (.x 0))) (.le (.add (.x 2) (.x 0)) (.c 9223372036854775807)))
  (.need (.c true) (.nnp 0)
  (.need (.c true) (.nnp 0)
  (.store (.pt 0 3) [(.i .i64 (.add (.x 2) (.x 0)))]
  (.ret (.tup []))))))))))))))))
theorem gen_pass : genFn ⟨true, []⟩ Tryz.prog (fun l => ([] : List LAnn).getD l ⟨[], [], []⟩) Tryz.f66 = fm_pass := by kernel_rfl
theorem ps_pass : freshPs Tryz.prog .zero Tryz.f66.params.toList = some ([(.one (.pt 0)), (.one (.i .i64 (.x 0)))], ⟨1, 0, 0, 0, 0, 1⟩) := by kernel_rfl
def fm_kind : Fm := (.ite (.or (.and (.le (.c 97) (.x 0)) (.le (.x 0) (.c 122))) (.eqI (.x 0) (.c 95)))
  (.ret (.p (.one (.i .i64 (.c 1)))))
  (.ite (.and (.le (.c 65) (.x 0)) (.le (.x 0) (.c 90)))
  (.ret (.p (.one (.i .i64 (.c 2)))))
  (.ite (.and (.le (.c 48) (.x 0)) (.le (.x 0) (.c 57)))
  (.ret (.p (.one (.i .i64 (.c 3)))))
  (.ret (.p (.one (.i .i64 (.c 0))))))))
theorem gen_kind : genFn ⟨true, []⟩ Tryz.prog (fun l => ([] : List LAnn).getD l ⟨[], [], []⟩) Tryz.f50 = fm_kind := by kernel_rfl
theorem ps_kind : freshPs Tryz.prog .zero Tryz.f50.params.toList = some ([(.one (.i .u8 (.x 0)))], ⟨1, 0, 0, 0, 0, 0⟩) := by kernel_rfl
/-- A reader's cells. -/
def rc (s : List UInt8) (a l c : Int) : List Value := [.string (B s), .int .i64 a, .int .i64 l, .int .i64 c]

def ctSmall : Ct Tryz.prog where
  f := 39
  spec := fun args h φ => ∃ b : Int, args = [.int .u8 b] ∧ φ (.bool (smB b)) h
  ok := by
    rintro args h φ w ⟨b, rfl, hφ⟩ hH
    refine by_fm Tryz.func39 gen_small ps_small [] φ noInv noMeas ⟨[b], [], [], [], [], [], h, noM⟩ ⟨rfl, rfl, rfl, rfl, rfl, rfl⟩ ones_nil ?_ w hH rfl
    have e : smB b = ((leB 97 b && leB b 122) || b == 95) := by
      unfold smB kdi leB
      rw [Bool.eq_iff_iff]; simp
      split <;> (try split) <;> (try split) <;> simp_all
    simp [fm_small, go_sem]
    rw [e] at hφ
    simpa using hφ
def ctGreat : Ct Tryz.prog where
  f := 40
  spec := fun args h φ => ∃ b : Int, args = [.int .u8 b] ∧ φ (.bool (grB b)) h
  ok := by
    rintro args h φ w ⟨b, rfl, hφ⟩ hH
    refine by_fm Tryz.func40 gen_great ps_great [] φ noInv noMeas ⟨[b], [], [], [], [], [], h, noM⟩ ⟨rfl, rfl, rfl, rfl, rfl, rfl⟩ ones_nil ?_ w hH rfl
    have e : grB b = (leB 65 b && leB b 90) := by
      unfold grB kdi leB
      rw [Bool.eq_iff_iff]; simp
      split <;> (try split) <;> (try split) <;> simp_all <;> omega
    simp [fm_great, go_sem]
    rw [e] at hφ
    simpa using hφ
def ctDigit : Ct Tryz.prog where
  f := 42
  spec := fun args h φ => ∃ b : Int, args = [.int .u8 b] ∧ φ (.bool (dgB b)) h
  ok := by
    rintro args h φ w ⟨b, rfl, hφ⟩ hH
    refine by_fm Tryz.func42 gen_digit ps_digit [] φ noInv noMeas ⟨[b], [], [], [], [], [], h, noM⟩ ⟨rfl, rfl, rfl, rfl, rfl, rfl⟩ ones_nil ?_ w hH rfl
    have e : dgB b = (leB 48 b && leB b 57) := by
      unfold dgB kdi leB
      rw [Bool.eq_iff_iff]; simp
      split <;> (try split) <;> (try split) <;> simp_all <;> omega
    simp [fm_digit, go_sem]
    rw [e] at hφ
    simpa using hφ
theorem inB_eq (b : Int) : inB b = (smB b || grB b || dgB b) := by
  unfold inB smB grB dgB kdi
  rw [Bool.eq_iff_iff]
  split <;> (try split) <;> (try split) <;> simp
def ctInner : Ct Tryz.prog where
  f := 69
  spec := fun args h φ => ∃ b : Int, args = [.int .u8 b] ∧ φ (.bool (inB b)) h
  ok := by
    rintro args h φ w ⟨b, rfl, hφ⟩ hH
    refine by_fm Tryz.func69 gen_inner ps_inner [ctSmall, ctGreat, ctDigit] φ noInv noMeas ⟨[b], [], [], [], [], [], h, noM⟩ ⟨rfl, rfl, rfl, rfl, rfl, rfl⟩ ones_nil ?_ w hH rfl
    rw [inB_eq] at hφ
    cases h1 : smB b <;> cases h2 : grB b <;> rw [h1, h2] at hφ <;> simp [fm_inner, go_sem, ctSmall, ctGreat, ctDigit, h1, h2] <;> simpa using hφ
def ctSkip1 : Ct Tryz.prog where
  f := 68
  spec := fun args h φ => ∃ b : Int, args = [.int .u8 b] ∧ φ (.bool (nlB b)) h
  ok := by
    rintro args h φ w ⟨b, rfl, hφ⟩ hH
    refine by_fm Tryz.func68 gen_skip1 ps_skip1 [] φ noInv noMeas ⟨[b], [], [], [], [], [], h, noM⟩ ⟨rfl, rfl, rfl, rfl, rfl, rfl⟩ ones_nil ?_ w hH rfl
    simp [fm_skip1, go_sem]
    exact hφ
def ctKind : Ct Tryz.prog where
  f := 50
  spec := fun args h φ => ∃ b : Int, args = [.int .u8 b] ∧ φ (.int .i64 (kdi b)) h
  ok := by
    rintro args h φ w ⟨b, rfl, hφ⟩ hH
    refine by_fm Tryz.func50 gen_kind ps_kind [] φ noInv noMeas ⟨[b], [], [], [], [], [], h, noM⟩ ⟨rfl, rfl, rfl, rfl, rfl, rfl⟩ ones_nil ?_ w hH rfl
    unfold kdi at hφ
    by_cases h1 : (97 ≤ b ∧ b ≤ 122) ∨ b = 95
    · rw [if_pos h1] at hφ
      simp [fm_kind, go_sem, h1, hφ]
      intro x y; exfalso; omega
    · rw [if_neg h1] at hφ
      by_cases h2 : 65 ≤ b ∧ b ≤ 90
      · rw [if_pos h2] at hφ
        simp [fm_kind, go_sem, h1, h2, hφ]
        intro x y z; exfalso; omega
      · rw [if_neg h2] at hφ
        by_cases h3 : 48 ≤ b ∧ b ≤ 57
        · rw [if_pos h3] at hφ
          simp [fm_kind, go_sem, h1, h2, h3, hφ]
          intro x y z u; exfalso; omega
        · rw [if_neg h3] at hφ
          simp [fm_kind, go_sem, h1, h2, h3, hφ]
def ctPass : Ct Tryz.prog where
  f := 66
  spec := fun args h φ => ∃ b s a l c T n, args = [.pointer (some ⟨b, 0, none⟩), .int .i64 n] ∧ h b = some ⟨rc s a l c, T⟩ ∧ 0 ≤ a ∧ a ≤ 1000000 ∧ 0 ≤ c ∧ c ≤ 1000000 ∧ 0 ≤ n ∧ n ≤ 1000000 ∧ φ (.tuple #[]) (h.set b ⟨rc s (a + n) l (c + n), T⟩)
  ok := by
    rintro args h φ w ⟨b, s, a, l, c, T, n, rfl, hb, h1, h2, h3, h4, h5, h6, hφ⟩ hH
    obtain ⟨h, rfl⟩ : ∃ h', h = Hp.set h' b ⟨rc s a l c, T⟩ := ⟨h, set_self hb⟩
    refine by_fm Tryz.func66 gen_pass ps_pass [] φ noInv noMeas ⟨[n], [], [], [], [], [some (b, 0)], h.set b ⟨rc s a l c, T⟩, noM⟩ ⟨rfl, rfl, rfl, rfl, rfl, rfl⟩ ones_nil ?_ w hH rfl
    rw [set_set] at hφ
    simp [fm_pass, go_sem, rc]
    refine ⟨by omega, by omega, by omega, by omega, ?_⟩
    simpa [rc] using hφ
end Go.Proofs.YthlakehilhpojaaGreatDoor
namespace Go.Proofs.YthlakehilhpojaaGreatDoor
open Go.RowKit
def fm_run_dg : Fm := (.loop 0 ⟨[(.c 0)], [], [], [], [], []⟩
  (.load (.c true) (.pt 0 1) 1 [(.i .i64 (.x 1))] ⟨1, 0, 0, 0, 0, 0⟩
  (.load (.c true) (.pt 0 0) 1 [(.s (.x 0))] ⟨0, 0, 1, 0, 0, 0⟩
  (.load (.lt (.add (.x 1) (.x 0)) (.len (.x 0))) (.pt 0 0) 1 [(.s (.x 1))] ⟨0, 0, 1, 0, 0, 0⟩
  (.load (.lt (.add (.x 1) (.x 0)) (.len (.x 0))) (.pt 0 1) 1 [(.i .i64 (.x 2))] ⟨1, 0, 0, 0, 0, 0⟩
  (.need (.c true) (.nnp 0)
  (.need (.c true) (.nnp 0)
  (.need (.c true) (.and (.le (.c (-9223372036854775808)) (.add (.x 1) (.x 0))) (.le (.add (.x 1) (.x 0)) (.c 9223372036854775807)))
  (.need (.c true) (.nnp 0)
  (.need (.c true) (.nnp 0)
  (.need (.lt (.add (.x 1) (.x 0)) (.len (.x 0))) (.nnp 0)
  (.need (.lt (.add (.x 1) (.x 0)) (.len (.x 0))) (.nnp 0)
  (.need (.lt (.add (.x 1) (.x 0)) (.len (.x 0))) (.nnp 0)
  (.need (.lt (.add (.x 1) (.x 0)) (.len (.x 0))) (.nnp 0)
  (.need (.lt (.add (.x 1) (.x 0)) (.len (.x 0))) (.and (.le (.c (-9223372036854775808)) (.add (.x 2) (.x 0))) (.le (.add (.x 2) (.x 0)) (.c 9223372036854775807)))
  (.need (.lt (.add (.x 1) (.x 0)) (.len (.x 0))) (.and (.le (.c 0) (.add (.x 2) (.x 0))) (.lt (.add (.x 2) (.x 0)) (.len (.x 1))))
  (.call (.lt (.add (.x 1) (.x 0)) (.len (.x 0))) false 42 [(.one (.i .u8 (.at (.x 1) (.add (.x 2) (.x 0)))))] (.p (.one (.b (.x 0)))) ⟨0, 1, 0, 0, 0, 0⟩
  (.ite (.and (.lt (.add (.x 1) (.x 0)) (.len (.x 0))) (.x 0))
  (.need (.c true) (.and (.le (.c (-9223372036854775808)) (.add (.x 0) (.c 1))) (.le (.add (.x 0) (.c 1)) (.c 9223372036854775807)))
  (.again 0 ⟨0, 0, 0, 0, 0, 1⟩ ⟨1, 0, 0, 0, 0, 1⟩ ⟨[(.add (.x 0) (.c 1))], [], [], [], [], []⟩))
  (.ret (.p (.one (.i .i64 (.x 0)))))))))))))))))))))))
theorem gen_run_dg : genFnP ⟨true, []⟩ Tryz.prog (fun l => ([⟨[5], [6, 7, 8, 9, 10, 11, 12, 13, 14, 15, 16, 17, 18, 19, 20, 21, 22, 23, 24, 25, 26, 27, 28, 29, 30, 31, 32, 33, 34], []⟩] : List LAnn).getD l ⟨[], [], []⟩) Tryz.f67 [.one (.pt 0), .one (.c (.fn 42))] ⟨0, 0, 0, 0, 0, 1⟩ = fm_run_dg := by kernel_rfl
def fm_run_in : Fm := (.loop 0 ⟨[(.c 0)], [], [], [], [], []⟩
  (.load (.c true) (.pt 0 1) 1 [(.i .i64 (.x 1))] ⟨1, 0, 0, 0, 0, 0⟩
  (.load (.c true) (.pt 0 0) 1 [(.s (.x 0))] ⟨0, 0, 1, 0, 0, 0⟩
  (.load (.lt (.add (.x 1) (.x 0)) (.len (.x 0))) (.pt 0 0) 1 [(.s (.x 1))] ⟨0, 0, 1, 0, 0, 0⟩
  (.load (.lt (.add (.x 1) (.x 0)) (.len (.x 0))) (.pt 0 1) 1 [(.i .i64 (.x 2))] ⟨1, 0, 0, 0, 0, 0⟩
  (.need (.c true) (.nnp 0)
  (.need (.c true) (.nnp 0)
  (.need (.c true) (.and (.le (.c (-9223372036854775808)) (.add (.x 1) (.x 0))) (.le (.add (.x 1) (.x 0)) (.c 9223372036854775807)))
  (.need (.c true) (.nnp 0)
  (.need (.c true) (.nnp 0)
  (.need (.lt (.add (.x 1) (.x 0)) (.len (.x 0))) (.nnp 0)
  (.need (.lt (.add (.x 1) (.x 0)) (.len (.x 0))) (.nnp 0)
  (.need (.lt (.add (.x 1) (.x 0)) (.len (.x 0))) (.nnp 0)
  (.need (.lt (.add (.x 1) (.x 0)) (.len (.x 0))) (.nnp 0)
  (.need (.lt (.add (.x 1) (.x 0)) (.len (.x 0))) (.and (.le (.c (-9223372036854775808)) (.add (.x 2) (.x 0))) (.le (.add (.x 2) (.x 0)) (.c 9223372036854775807)))
  (.need (.lt (.add (.x 1) (.x 0)) (.len (.x 0))) (.and (.le (.c 0) (.add (.x 2) (.x 0))) (.lt (.add (.x 2) (.x 0)) (.len (.x 1))))
  (.call (.lt (.add (.x 1) (.x 0)) (.len (.x 0))) false 69 [(.one (.i .u8 (.at (.x 1) (.add (.x 2) (.x 0)))))] (.p (.one (.b (.x 0)))) ⟨0, 1, 0, 0, 0, 0⟩
  (.ite (.and (.lt (.add (.x 1) (.x 0)) (.len (.x 0))) (.x 0))
  (.need (.c true) (.and (.le (.c (-9223372036854775808)) (.add (.x 0) (.c 1))) (.le (.add (.x 0) (.c 1)) (.c 9223372036854775807)))
  (.again 0 ⟨0, 0, 0, 0, 0, 1⟩ ⟨1, 0, 0, 0, 0, 1⟩ ⟨[(.add (.x 0) (.c 1))], [], [], [], [], []⟩))
  (.ret (.p (.one (.i .i64 (.x 0)))))))))))))))))))))))
theorem gen_run_in : genFnP ⟨true, []⟩ Tryz.prog (fun l => ([⟨[5], [6, 7, 8, 9, 10, 11, 12, 13, 14, 15, 16, 17, 18, 19, 20, 21, 22, 23, 24, 25, 26, 27, 28, 29, 30, 31, 32, 33, 34], []⟩] : List LAnn).getD l ⟨[], [], []⟩) Tryz.f67 [.one (.pt 0), .one (.c (.fn 69))] ⟨0, 0, 0, 0, 0, 1⟩ = fm_run_in := by kernel_rfl
def fm_run_nl : Fm := (.loop 0 ⟨[(.c 0)], [], [], [], [], []⟩
  (.load (.c true) (.pt 0 1) 1 [(.i .i64 (.x 1))] ⟨1, 0, 0, 0, 0, 0⟩
  (.load (.c true) (.pt 0 0) 1 [(.s (.x 0))] ⟨0, 0, 1, 0, 0, 0⟩
  (.load (.lt (.add (.x 1) (.x 0)) (.len (.x 0))) (.pt 0 0) 1 [(.s (.x 1))] ⟨0, 0, 1, 0, 0, 0⟩
  (.load (.lt (.add (.x 1) (.x 0)) (.len (.x 0))) (.pt 0 1) 1 [(.i .i64 (.x 2))] ⟨1, 0, 0, 0, 0, 0⟩
  (.need (.c true) (.nnp 0)
  (.need (.c true) (.nnp 0)
  (.need (.c true) (.and (.le (.c (-9223372036854775808)) (.add (.x 1) (.x 0))) (.le (.add (.x 1) (.x 0)) (.c 9223372036854775807)))
  (.need (.c true) (.nnp 0)
  (.need (.c true) (.nnp 0)
  (.need (.lt (.add (.x 1) (.x 0)) (.len (.x 0))) (.nnp 0)
  (.need (.lt (.add (.x 1) (.x 0)) (.len (.x 0))) (.nnp 0)
  (.need (.lt (.add (.x 1) (.x 0)) (.len (.x 0))) (.nnp 0)
  (.need (.lt (.add (.x 1) (.x 0)) (.len (.x 0))) (.nnp 0)
  (.need (.lt (.add (.x 1) (.x 0)) (.len (.x 0))) (.and (.le (.c (-9223372036854775808)) (.add (.x 2) (.x 0))) (.le (.add (.x 2) (.x 0)) (.c 9223372036854775807)))
  (.need (.lt (.add (.x 1) (.x 0)) (.len (.x 0))) (.and (.le (.c 0) (.add (.x 2) (.x 0))) (.lt (.add (.x 2) (.x 0)) (.len (.x 1))))
  (.call (.lt (.add (.x 1) (.x 0)) (.len (.x 0))) false 68 [(.one (.i .u8 (.at (.x 1) (.add (.x 2) (.x 0)))))] (.p (.one (.b (.x 0)))) ⟨0, 1, 0, 0, 0, 0⟩
  (.ite (.and (.lt (.add (.x 1) (.x 0)) (.len (.x 0))) (.x 0))
  (.need (.c true) (.and (.le (.c (-9223372036854775808)) (.add (.x 0) (.c 1))) (.le (.add (.x 0) (.c 1)) (.c 9223372036854775807)))
  (.again 0 ⟨0, 0, 0, 0, 0, 1⟩ ⟨1, 0, 0, 0, 0, 1⟩ ⟨[(.add (.x 0) (.c 1))], [], [], [], [], []⟩))
  (.ret (.p (.one (.i .i64 (.x 0)))))))))))))))))))))))
theorem gen_run_nl : genFnP ⟨true, []⟩ Tryz.prog (fun l => ([⟨[5], [6, 7, 8, 9, 10, 11, 12, 13, 14, 15, 16, 17, 18, 19, 20, 21, 22, 23, 24, 25, 26, 27, 28, 29, 30, 31, 32, 33, 34], []⟩] : List LAnn).getD l ⟨[], [], []⟩) Tryz.f67 [.one (.pt 0), .one (.c (.fn 68))] ⟨0, 0, 0, 0, 0, 1⟩ = fm_run_nl := by kernel_rfl
end Go.Proofs.YthlakehilhpojaaGreatDoor
namespace Go.Proofs.YthlakehilhpojaaGreatDoor
open Go.RowKit
attribute [local go_sem] Fm.says BE.den IE.den SE.den LE.den AE.den CE.den PE.den VE.den KV.val Got.den Got.cnt exI allI exL allL Ctx.push Ctx.heap Ctx.cut Ctx.bare Ctx.mark Inc.blank List.getD_cons_zero List.getD_cons_succ List.cons_append List.nil_append List.append_nil List.map_cons List.map_nil List.replicate_zero List.replicate_succ specOf ltB_t leB_t ltB_f leB_f slc_val slc_nil slc_inj pt_val pt_nil hle_noHeap hle_refl hread_set hwrite_set set_same set_set noHeap_at B_inj ones_nil and_assoc
def runInv (p : Int → Bool) (s : List UInt8) (a : Nat) (l c : Int) (T b : Nat) (h : Hp) (_ : Nat) (C : Ctx) : Prop :=
  ∃ n : Int, C = ⟨[n], [], [], [], [], [some (b, 0)], h.set b ⟨rc s a l c, T⟩, noM⟩ ∧ ∃ k : Nat, n = (k : Int) ∧ a + k ≤ s.length ∧ rn p s a = k + rn p s (a + k)
theorem run_dg {s : List UInt8} {a : Nat} {l c : Int} {T b : Nat} (ha : a ≤ s.length) (hs : s.length ≤ 1000000) (h : Hp) (φ : Value → Hp → Prop) (hφ : φ (.int .i64 (rn dgB s a)) (h.set b ⟨rc s a l c, T⟩)) (w : World) (hH : Holds (h.set b ⟨rc s a l c, T⟩) w) :
    Calls Tryz.prog 67 #[.pointer (some ⟨b, 0, none⟩), .func (.func 42) #[] #[]] w fun e w' => ∃ v k, e = .returned v ∧ φ v k ∧ Holds k w' ∧ Fr w.heap.size (h.set b ⟨rc s a l c, T⟩) k w w' := by
  refine by_fmP Tryz.func67 gen_run_dg [ctDigit] φ (runInv dgB s a l c T b h) (fun _ C => (s.length - C.i.getD 0 0).toNat) ⟨[], [], [], [], [], [some (b, 0)], h.set b ⟨rc s a l c, T⟩, noM⟩ ⟨rfl, rfl, rfl, rfl, rfl, rfl⟩ ones_nil ?_ w hH rfl
  simp [fm_run_dg, go_sem, rc, runInv, ctDigit]
  refine ⟨⟨0, rfl, by omega, by simp⟩, fun x k hx hk hr => ?_⟩
  subst hx
  by_cases hlt : (a : Int) + k < s.length
  · have hi : a + k < s.length := by omega
    have e : ((a : Int) + (k : Int)).toNat = a + k := by omega
    have hlt' : ¬ ((s.length : Int) ≤ a + k) := by omega
    cases hp : dgB (bt s (a + k))
    · rw [rn_no hi hp] at hr
      have hk' : (k : Int) = (rn dgB s a : Int) := by omega
      simp [hlt, hlt', e, hp]
      (repeat' apply And.intro) <;> try omega
      rw [hk']
      simpa [rc] using hφ
    · rw [rn_yes hi hp] at hr
      simp [hlt, hlt', e, hp]
      (repeat' apply And.intro) <;> try omega
      exact ⟨k + 1, by omega, by omega, by rw [show a + (k + 1) = a + k + 1 by omega]; omega⟩
  · have hge : (s.length : Int) ≤ a + k := by omega
    rw [rn_end (i := a + k) (by omega)] at hr
    have hk' : (k : Int) = (rn dgB s a : Int) := by omega
    simp [hlt, hge]
    (repeat' apply And.intro) <;> try omega
    rw [hk']
    simpa [rc] using hφ
theorem run_inner {s : List UInt8} {a : Nat} {l c : Int} {T b : Nat} (ha : a ≤ s.length) (hs : s.length ≤ 1000000) (h : Hp) (φ : Value → Hp → Prop) (hφ : φ (.int .i64 (rn inB s a)) (h.set b ⟨rc s a l c, T⟩)) (w : World) (hH : Holds (h.set b ⟨rc s a l c, T⟩) w) :
    Calls Tryz.prog 67 #[.pointer (some ⟨b, 0, none⟩), .func (.func 69) #[] #[]] w fun e w' => ∃ v k, e = .returned v ∧ φ v k ∧ Holds k w' ∧ Fr w.heap.size (h.set b ⟨rc s a l c, T⟩) k w w' := by
  refine by_fmP Tryz.func67 gen_run_in [ctInner] φ (runInv inB s a l c T b h) (fun _ C => (s.length - C.i.getD 0 0).toNat) ⟨[], [], [], [], [], [some (b, 0)], h.set b ⟨rc s a l c, T⟩, noM⟩ ⟨rfl, rfl, rfl, rfl, rfl, rfl⟩ ones_nil ?_ w hH rfl
  simp [fm_run_in, go_sem, rc, runInv, ctInner]
  refine ⟨⟨0, rfl, by omega, by simp⟩, fun x k hx hk hr => ?_⟩
  subst hx
  by_cases hlt : (a : Int) + k < s.length
  · have hi : a + k < s.length := by omega
    have e : ((a : Int) + (k : Int)).toNat = a + k := by omega
    have hlt' : ¬ ((s.length : Int) ≤ a + k) := by omega
    cases hp : inB (bt s (a + k))
    · rw [rn_no hi hp] at hr
      have hk' : (k : Int) = (rn inB s a : Int) := by omega
      simp [hlt, hlt', e, hp]
      (repeat' apply And.intro) <;> try omega
      rw [hk']
      simpa [rc] using hφ
    · rw [rn_yes hi hp] at hr
      simp [hlt, hlt', e, hp]
      (repeat' apply And.intro) <;> try omega
      exact ⟨k + 1, by omega, by omega, by rw [show a + (k + 1) = a + k + 1 by omega]; omega⟩
  · have hge : (s.length : Int) ≤ a + k := by omega
    rw [rn_end (i := a + k) (by omega)] at hr
    have hk' : (k : Int) = (rn inB s a : Int) := by omega
    simp [hlt, hge]
    (repeat' apply And.intro) <;> try omega
    rw [hk']
    simpa [rc] using hφ
theorem run_nl {s : List UInt8} {a : Nat} {l c : Int} {T b : Nat} (ha : a ≤ s.length) (hs : s.length ≤ 1000000) (h : Hp) (φ : Value → Hp → Prop) (hφ : φ (.int .i64 (rn nlB s a)) (h.set b ⟨rc s a l c, T⟩)) (w : World) (hH : Holds (h.set b ⟨rc s a l c, T⟩) w) :
    Calls Tryz.prog 67 #[.pointer (some ⟨b, 0, none⟩), .func (.func 68) #[] #[]] w fun e w' => ∃ v k, e = .returned v ∧ φ v k ∧ Holds k w' ∧ Fr w.heap.size (h.set b ⟨rc s a l c, T⟩) k w w' := by
  refine by_fmP Tryz.func67 gen_run_nl [ctSkip1] φ (runInv nlB s a l c T b h) (fun _ C => (s.length - C.i.getD 0 0).toNat) ⟨[], [], [], [], [], [some (b, 0)], h.set b ⟨rc s a l c, T⟩, noM⟩ ⟨rfl, rfl, rfl, rfl, rfl, rfl⟩ ones_nil ?_ w hH rfl
  simp [fm_run_nl, go_sem, rc, runInv, ctSkip1]
  refine ⟨⟨0, rfl, by omega, by simp⟩, fun x k hx hk hr => ?_⟩
  subst hx
  by_cases hlt : (a : Int) + k < s.length
  · have hi : a + k < s.length := by omega
    have e : ((a : Int) + (k : Int)).toNat = a + k := by omega
    have hlt' : ¬ ((s.length : Int) ≤ a + k) := by omega
    cases hp : nlB (bt s (a + k))
    · rw [rn_no hi hp] at hr
      have hk' : (k : Int) = (rn nlB s a : Int) := by omega
      simp [hlt, hlt', e, hp]
      (repeat' apply And.intro) <;> try omega
      rw [hk']
      simpa [rc] using hφ
    · rw [rn_yes hi hp] at hr
      simp [hlt, hlt', e, hp]
      (repeat' apply And.intro) <;> try omega
      exact ⟨k + 1, by omega, by omega, by rw [show a + (k + 1) = a + k + 1 by omega]; omega⟩
  · have hge : (s.length : Int) ≤ a + k := by omega
    rw [rn_end (i := a + k) (by omega)] at hr
    have hk' : (k : Int) = (rn nlB s a : Int) := by omega
    simp [hlt, hge]
    (repeat' apply And.intro) <;> try omega
    rw [hk']
    simpa [rc] using hφ
end Go.Proofs.YthlakehilhpojaaGreatDoor
namespace Go.Proofs.YthlakehilhpojaaGreatDoor
open Go.RowKit
def fm_skip : Fm := (.loop 0 ⟨[], [], [], [], [], []⟩
  (.load (.c true) (.pt 0 1) 1 [(.i .i64 (.x 0))] ⟨1, 0, 0, 0, 0, 0⟩
  (.load (.c true) (.pt 0 0) 1 [(.s (.x 0))] ⟨0, 0, 1, 0, 0, 0⟩
  (.need (.c true) (.nnp 0)
  (.need (.c true) (.nnp 0)
  (.need (.c true) (.nnp 0)
  (.need (.c true) (.nnp 0)
  (.ite (.eqI (.x 0) (.len (.x 0)))
  (.ret (.tup []))
  (.load (.c true) (.pt 0 0) 1 [(.s (.x 1))] ⟨0, 0, 1, 0, 0, 0⟩
  (.load (.c true) (.pt 0 1) 1 [(.i .i64 (.x 1))] ⟨1, 0, 0, 0, 0, 0⟩
  (.need (.c true) (.nnp 0)
  (.need (.c true) (.nnp 0)
  (.need (.c true) (.nnp 0)
  (.need (.c true) (.nnp 0)
  (.need (.c true) (.and (.le (.c 0) (.x 1)) (.lt (.x 1) (.len (.x 1))))
  (.ite (.eqI (.at (.x 1) (.x 1)) (.c 10))
  (.need (.c true) (.nnp 0)
  (.need (.c true) (.nnp 0)
  (.load (.c true) (.pt 0 2) 1 [(.i .i64 (.x 2))] ⟨1, 0, 0, 0, 0, 0⟩
  (.need (.c true) (.and (.le (.c (-9223372036854775808)) (.add (.x 2) (.c 1))) (.le (.add (.x 2) (.c 1)) (.c 9223372036854775807)))
  (.need (.c true) (.nnp 0)
  (.need (.c true) (.nnp 0)
  (.store (.pt 0 2) [(.i .i64 (.add (.x 2) (.c 1)))]
  (.need (.c true) (.nnp 0)
  (.need (.c true) (.nnp 0)
  (.store (.pt 0 3) [(.i .i64 (.c 0))]
  (.call (.c true) false 66 [(.one (.pt 0)), (.one (.i .i64 (.c 1)))] (.tup []) ⟨0, 0, 0, 0, 0, 0⟩
  (.again 0 ⟨0, 0, 0, 0, 0, 1⟩ ⟨0, 0, 0, 0, 0, 1⟩ ⟨[], [], [], [], [], []⟩))))))))))))
  (.ite (.eqI (.at (.x 1) (.x 1)) (.c 32))
  (.ite (.eqI (.at (.x 1) (.x 1)) (.c 32))
  (.call (.c true) false 66 [(.one (.pt 0)), (.one (.i .i64 (.c 1)))] (.tup []) ⟨0, 0, 0, 0, 0, 0⟩
  (.again 0 ⟨0, 0, 0, 0, 0, 1⟩ ⟨0, 0, 0, 0, 0, 1⟩ ⟨[], [], [], [], [], []⟩))
  (.ite (.eqI (.at (.x 1) (.x 1)) (.c 35))
  (.call (.c true) false 67 [(.one (.pt 0)), (.one (.c (.fn 68)))] (.p (.one (.i .i64 (.x 2)))) ⟨1, 0, 0, 0, 0, 0⟩
  (.call (.c true) false 66 [(.one (.pt 0)), (.one (.i .i64 (.x 2)))] (.tup []) ⟨0, 0, 0, 0, 0, 0⟩
  (.again 0 ⟨0, 0, 0, 0, 0, 1⟩ ⟨0, 0, 0, 0, 0, 1⟩ ⟨[], [], [], [], [], []⟩)))
  (.ret (.tup []))))
  (.ite (.eqI (.at (.x 1) (.x 1)) (.c 9))
  (.ite (.eqI (.at (.x 1) (.x 1)) (.c 9))
  (.call (.c true) false 66 [(.one (.pt 0)), (.one (.i .i64 (.c 1)))] (.tup []) ⟨0, 0, 0, 0, 0, 0⟩
  (.again 0 ⟨0, 0, 0, 0, 0, 1⟩ ⟨0, 0, 0, 0, 0, 1⟩ ⟨[], [], [], [], [], []⟩))
  (.ite (.eqI (.at (.x 1) (.x 1)) (.c 35))
  (.call (.c true) false 67 [(.one (.pt 0)), (.one (.c (.fn 68)))] (.p (.one (.i .i64 (.x 2)))) ⟨1, 0, 0, 0, 0, 0⟩
  (.call (.c true) false 66 [(.one (.pt 0)), (.one (.i .i64 (.x 2)))] (.tup []) ⟨0, 0, 0, 0, 0, 0⟩
  (.again 0 ⟨0, 0, 0, 0, 0, 1⟩ ⟨0, 0, 0, 0, 0, 1⟩ ⟨[], [], [], [], [], []⟩)))
  (.ret (.tup []))))
  (.ite (.eqI (.at (.x 1) (.x 1)) (.c 13))
  (.call (.c true) false 66 [(.one (.pt 0)), (.one (.i .i64 (.c 1)))] (.tup []) ⟨0, 0, 0, 0, 0, 0⟩
  (.again 0 ⟨0, 0, 0, 0, 0, 1⟩ ⟨0, 0, 0, 0, 0, 1⟩ ⟨[], [], [], [], [], []⟩))
  (.ite (.eqI (.at (.x 1) (.x 1)) (.c 35))
  (.call (.c true) false 67 [(.one (.pt 0)), (.one (.c (.fn 68)))] (.p (.one (.i .i64 (.x 2)))) ⟨1, 0, 0, 0, 0, 0⟩
  (.call (.c true) false 66 [(.one (.pt 0)), (.one (.i .i64 (.x 2)))] (.tup []) ⟨0, 0, 0, 0, 0, 0⟩
  (.again 0 ⟨0, 0, 0, 0, 0, 1⟩ ⟨0, 0, 0, 0, 0, 1⟩ ⟨[], [], [], [], [], []⟩)))
  (.ret (.tup []))))))))))))))))))))))
theorem gen_skip : genFn ⟨true, []⟩ Tryz.prog (fun l => ([⟨[], [2, 3, 4, 5, 6, 7, 8, 9, 10, 11, 12, 13, 14, 15, 16, 17, 18, 19, 20, 22, 21, 24, 23, 25, 26, 28, 27, 29, 30, 31, 32, 33, 34, 35, 36, 37, 38, 39, 40, 41, 42, 43, 44], [0]⟩] : List LAnn).getD l ⟨[], [], []⟩) Tryz.f38 = fm_skip := by kernel_rfl
theorem ps_skip : freshPs Tryz.prog .zero Tryz.f38.params.toList = some ([(.one (.pt 0))], ⟨0, 0, 0, 0, 0, 1⟩) := by kernel_rfl
def runSpec (p : Int → Bool) (b : Nat) (h : Hp) (φ : Value → Hp → Prop) : Prop :=
  ∃ s a l c T, h b = some ⟨rc s a l c, T⟩ ∧ 0 ≤ a ∧ a ≤ s.length ∧ s.length ≤ 1000000 ∧ φ (.int .i64 (rn p s a.toNat)) h
def ctRun : Ct Tryz.prog where
  f := 67
  spec := fun args h φ =>
    (∃ b, args = [.pointer (some ⟨b, 0, none⟩), .func (.func 42) #[] #[]] ∧ runSpec dgB b h φ) ∨ (∃ b, args = [.pointer (some ⟨b, 0, none⟩), .func (.func 69) #[] #[]] ∧ runSpec inB b h φ) ∨
    (∃ b, args = [.pointer (some ⟨b, 0, none⟩), .func (.func 68) #[] #[]] ∧ runSpec nlB b h φ)
  ok := by
    rintro args h φ w hc hH
    rcases hc with ⟨b, rfl, s, a, l, c, T, hb, h0, ha, hs, hφ⟩ | ⟨b, rfl, s, a, l, c, T, hb, h0, ha, hs, hφ⟩ | ⟨b, rfl, s, a, l, c, T, hb, h0, ha, hs, hφ⟩
    all_goals
      obtain ⟨h, rfl⟩ : ∃ h', h = Hp.set h' b ⟨rc s a l c, T⟩ := ⟨h, set_self hb⟩
      obtain ⟨n, rfl⟩ : ∃ n : Nat, a = n := ⟨a.toNat, by omega⟩
      rw [Int.toNat_natCast] at hφ
    · exact run_dg (by omega) hs h φ hφ w hH
    · exact run_inner (by omega) hs h φ hφ w hH
    · exact run_nl (by omega) hs h φ hφ w hH
def atOf (h : Hp) (b : Nat) : Int :=
  match h b with
  | some ⟨[_, .int _ a, _, _], _⟩ => a
  | _ => 0
theorem atOf_set (h : Hp) (b : Nat) (s : List UInt8) (a l c : Int) (T : Nat) : atOf (h.set b ⟨rc s a l c, T⟩) b = a := by unfold atOf; rw [set_same]; rfl
end Go.Proofs.YthlakehilhpojaaGreatDoor
namespace Go.Proofs.YthlakehilhpojaaGreatDoor
open Go.RowKit
attribute [local go_sem] says_tt says_ff says_need says_ite says_call says_callK says_load says_store says_mk says_new says_mks says_str says_ret says_again says_app BE.den IE.den SE.den LE.den AE.den CE.den PE.den VE.den KV.val Got.den Got.cnt exI allI exL allL Ctx.push Ctx.heap Ctx.cut Ctx.bare Ctx.mark Inc.blank List.getD_cons_zero List.getD_cons_succ List.cons_append List.nil_append List.append_nil List.map_cons List.map_nil List.replicate_zero List.replicate_succ specOf ltB_t leB_t ltB_f leB_f slc_val slc_nil slc_inj pt_val pt_nil hle_noHeap hle_refl hread_set hwrite_set set_same set_set noHeap_at B_inj ones_nil and_assoc
def skipInv (s : List UInt8) (a : Nat) (p : Int × Int) (T b : Nat) (h : Hp) (_ : Nat) (C : Ctx) : Prop :=
  ∃ k : Nat, C = ⟨[], [], [], [], [], [some (b, 0)], h.set b ⟨rc s k (adv p (sub s a k)).1 (adv p (sub s a k)).2, T⟩, noM⟩ ∧ a ≤ k ∧ k ≤ s.length ∧ ski false s a = (k - a) + ski false s k
set_option maxHeartbeats 8000000 in
def ctSkip : Ct Tryz.prog where
  f := 38
  spec := fun args h φ => ∃ b s, ∃ a : Nat, ∃ p : Int × Int, ∃ T, args = [.pointer (some ⟨b, 0, none⟩)] ∧ h b = some ⟨rc s a p.1 p.2, T⟩ ∧ a ≤ s.length ∧ s.length ≤ 100000 ∧ 0 ≤ p.1 ∧ p.1 ≤ 100000 ∧ 0 ≤ p.2 ∧ p.2 ≤ 100000 ∧
    φ (.tuple #[]) (h.set b ⟨rc s (a + ski false s a : Nat) (adv p (sub s a (a + ski false s a))).1 (adv p (sub s a (a + ski false s a))).2, T⟩)
  ok := by
    rintro args h φ w ⟨b, s, a, p, T, rfl, hb, ha, hs, p1, p2, p3, p4, hφ⟩ hH
    obtain ⟨h, rfl⟩ : ∃ h', h = Hp.set h' b ⟨rc s a p.1 p.2, T⟩ := ⟨h, set_self hb⟩
    rw [set_set] at hφ
    refine by_fm Tryz.func38 gen_skip ps_skip [ctPass, ctRun] φ (skipInv s a p T b h) (fun _ C => (s.length - atOf C.h b).toNat) ⟨[], [], [], [], [], [some (b, 0)], h.set b ⟨rc s a p.1 p.2, T⟩, noM⟩ ⟨rfl, rfl, rfl, rfl, rfl, rfl⟩ ones_nil ?_ w hH rfl
    refine loop_intro ⟨a, by rw [sub_same, adv_nil]; rfl, Nat.le_refl _, ha, by omega⟩ ?_
    rintro i bb ss v ll pp hh M ⟨k, hC, h1, h2, h3⟩ hM
    cases hC
    simp only [atOf_set] at hM
    have hbd := adv_bd p (sub s a k) p1 p3
    rw [sub_len s h2] at hbd
    generalize hq : adv p (sub s a k) = q at *
    obtain ⟨L, Co⟩ := q
    simp only at hbd hM ⊢
    have hq' : ∀ (n : Nat) (x L' C' : Int), x = (k : Int) + n → k + n ≤ s.length → 0 < n → adv p (sub s a (k + n)) = (L', C') → ski false s k = n + ski false s (k + n) →
        skipInv s a p T b h 0 ⟨[], [], [], [], [], [some (b, 0)], h.set b ⟨[.string (B s), .int .i64 x, .int .i64 L', .int .i64 C'], T⟩, noM⟩ ∧ ((s.length : Int) - atOf (h.set b ⟨[.string (B s), .int .i64 x, .int .i64 L', .int .i64 C'], T⟩) b).toNat < M 0 := by
      intro n x L' C' hx hn hn0 he hsk
      have e : ([.string (B s), .int .i64 x, .int .i64 L', .int .i64 C'] : List Value) = rc s ((k + n : Nat) : Int) L' C' := by rw [hx]; rfl
      rw [e]
      refine ⟨⟨k + n, by rw [he], by omega, hn, by omega⟩, ?_⟩
      rw [atOf_set, hM]
      omega
    have done : ski false s k = 0 → φ (.tuple #[]) (h.set b ⟨[.string (B s), .int .i64 k, .int .i64 L, .int .i64 Co], T⟩) := by
      intro h0
      rw [h0] at h3
      have e : a + ski false s a = k := by omega
      rw [e, hq] at hφ
      exact hφ
    by_cases hk : k < s.length
    · have hne : ¬ ((k : Int) = s.length) := by omega
      have hlt : (k : Int) < s.length := by omega
      rcases (by omega : bt s k = 10 ∨ bt s k = 32 ∨ bt s k = 9 ∨ bt s k = 13 ∨ bt s k = 35 ∨ (bt s k ≠ 10 ∧ bt s k ≠ 32 ∧ bt s k ≠ 9 ∧ bt s k ≠ 13 ∧ bt s k ≠ 35)) with hb | hb | hb | hb | hb | hb
      · have ha' := hq' 1 (k + 1) (L + 1) 1 (by omega) (by omega) (by omega) (by rw [adv_snoc p s h1 hk, hq, ad, if_pos hb]) (by rw [ski_blank hk (.inl hb)]; omega)
        simp [go_sem, rc, ctPass, hne, hb]
        (repeat' apply And.intro) <;> first | omega | exact ha'.1 | exact ha'.2
      · have ha' := hq' 1 (k + 1) L (Co + 1) (by omega) (by omega) (by omega) (by rw [adv_snoc p s h1 hk, hq, ad, if_neg (by omega)]) (by rw [ski_blank hk (.inr (.inl hb))]; omega)
        simp [go_sem, rc, ctPass, hne, hb]
        (repeat' apply And.intro) <;> first | omega | exact ha'.1 | exact ha'.2
      · have ha' := hq' 1 (k + 1) L (Co + 1) (by omega) (by omega) (by omega) (by rw [adv_snoc p s h1 hk, hq, ad, if_neg (by omega)]) (by rw [ski_blank hk (.inr (.inr (.inl hb)))]; omega)
        simp [go_sem, rc, ctPass, hne, hb]
        (repeat' apply And.intro) <;> first | omega | exact ha'.1 | exact ha'.2
      · have ha' := hq' 1 (k + 1) L (Co + 1) (by omega) (by omega) (by omega) (by rw [adv_snoc p s h1 hk, hq, ad, if_neg (by omega)]) (by rw [ski_blank hk (.inr (.inr (.inr hb)))]; omega)
        simp [go_sem, rc, ctPass, hne, hb]
        (repeat' apply And.intro) <;> first | omega | exact ha'.1 | exact ha'.2
      · have hle := rn_le (p := nlB) (s := s) (i := k) (by omega)
        have hpos : 0 < rn nlB s k := by rw [rn_yes hk (by rw [hb]; rfl)]; omega
        have ha' := hq' (rn nlB s k) (k + rn nlB s k) L (Co + rn nlB s k) (by omega) hle hpos (by
          rw [sub_sub s h1 (Nat.le_add_right k _) hle, adv_app, hq, adv_flat _ s hle (fun j h1 h2 => by
            have := (rn_in (p := nlB) h1 h2).2
            simpa [nlB] using this)]) (by rw [ski_hash hk hb])
        simp [go_sem, rc, ctPass, ctRun, runSpec, hne, hb]
        (repeat' apply And.intro) <;> first | omega | exact ha'.1 | exact ha'.2
      · obtain ⟨b1, b2, b3, b4, b5⟩ := hb
        have hd := done (ski_none hk ⟨b1, b2, b3, b4, b5⟩)
        simp [go_sem, rc, hne, b1, b2, b3, b4, b5]
        (repeat' apply And.intro) <;> first | omega | exact hd
    · have heq : (k : Int) = s.length := by omega
      have hd := done (ski_end (by omega) _)
      simp [go_sem, rc, ← heq]
      exact hd
end Go.Proofs.YthlakehilhpojaaGreatDoor
namespace Go.Proofs.YthlakehilhpojaaGreatDoor
open Go.RowKit
attribute [local go_sem] says_tt says_ff says_need says_ite says_call says_callK says_load says_store says_mk says_new says_mks says_str says_ret says_again says_app BE.den IE.den SE.den LE.den AE.den CE.den PE.den VE.den KV.val Got.den Got.cnt exI allI exL allL Ctx.push Ctx.heap Ctx.cut Ctx.bare Ctx.mark Inc.blank List.getD_cons_zero List.getD_cons_succ List.cons_append List.nil_append List.append_nil List.map_cons List.map_nil List.replicate_zero List.replicate_succ specOf ltB_t leB_t ltB_f leB_f slc_val slc_nil slc_inj pt_val pt_nil hle_noHeap hle_refl hread_set hwrite_set set_same set_set noHeap_at B_inj ones_nil and_assoc
def fm_rinner : Fm := (.loop 0 ⟨[(.x 0)], [], [], [], [], []⟩
  (.need (.lt (.x 1) (.len (.x 0))) (.and (.le (.c 0) (.x 1)) (.lt (.x 1) (.len (.x 0))))
  (.call (.lt (.x 1) (.len (.x 0))) false 50 [(.one (.i .u8 (.at (.x 0) (.x 1))))] (.p (.one (.i .i64 (.x 2)))) ⟨1, 0, 0, 0, 0, 0⟩
  (.ite (.and (.lt (.x 1) (.len (.x 0))) (.lt (.c 0) (.x 2)))
  (.need (.c true) (.and (.le (.c (-9223372036854775808)) (.add (.x 1) (.c 1))) (.le (.add (.x 1) (.c 1)) (.c 9223372036854775807)))
  (.again 0 ⟨1, 0, 1, 0, 0, 0⟩ ⟨2, 0, 1, 0, 0, 0⟩ ⟨[(.add (.x 1) (.c 1))], [], [], [], [], []⟩))
  (.ret (.p (.one (.i .i64 (.x 1)))))))))
theorem gen_rinner : genFn ⟨true, []⟩ Tryz.prog (fun l => ([⟨[1], [5, 6, 7, 8, 9, 10, 11, 12, 13, 14, 15, 16, 17], []⟩] : List LAnn).getD l ⟨[], [], []⟩) Tryz.f51 = fm_rinner := by kernel_rfl
theorem ps_rinner : freshPs Tryz.prog .zero Tryz.f51.params.toList = some ([(.one (.s (.x 0))), (.one (.i .i64 (.x 0)))], ⟨1, 0, 1, 0, 0, 0⟩) := by kernel_rfl
def fm_rskip : Fm := (.loop 0 ⟨[(.x 0), (.c 0)], [(.c false)], [], [], [], []⟩
  (.ite (.lt (.x 1) (.len (.x 0)))
  (.need (.c true) (.and (.le (.c 0) (.x 1)) (.lt (.x 1) (.len (.x 0))))
  (.ite (.eqI (.at (.x 0) (.x 1)) (.c 35))
  (.ite (.eqI (.at (.x 0) (.x 1)) (.c 10))
  (.ite (.and (.and (.and (.not (.eqI (.at (.x 0) (.x 1)) (.c 32))) (.not (.eqI (.at (.x 0) (.x 1)) (.c 9)))) (.not (.eqI (.at (.x 0) (.x 1)) (.c 13)))) (.not (.eqI (.at (.x 0) (.x 1)) (.c 10))))
  (.ret (.p (.one (.i .i64 (.x 1)))))
  (.need (.c true) (.and (.le (.c (-9223372036854775808)) (.add (.x 1) (.c 1))) (.le (.add (.x 1) (.c 1)) (.c 9223372036854775807)))
  (.again 0 ⟨1, 0, 1, 0, 0, 0⟩ ⟨3, 1, 1, 0, 0, 0⟩ ⟨[(.add (.x 1) (.c 1)), (.x 2)], [(.c false)], [], [], [], []⟩)))
  (.need (.c true) (.and (.le (.c (-9223372036854775808)) (.add (.x 1) (.c 1))) (.le (.add (.x 1) (.c 1)) (.c 9223372036854775807)))
  (.again 0 ⟨1, 0, 1, 0, 0, 0⟩ ⟨3, 1, 1, 0, 0, 0⟩ ⟨[(.add (.x 1) (.c 1)), (.x 2)], [(.c true)], [], [], [], []⟩)))
  (.ite (.eqI (.at (.x 0) (.x 1)) (.c 10))
  (.ite (.and (.and (.and (.not (.eqI (.at (.x 0) (.x 1)) (.c 32))) (.not (.eqI (.at (.x 0) (.x 1)) (.c 9)))) (.not (.eqI (.at (.x 0) (.x 1)) (.c 13)))) (.not (.eqI (.at (.x 0) (.x 1)) (.c 10))))
  (.ret (.p (.one (.i .i64 (.x 1)))))
  (.need (.c true) (.and (.le (.c (-9223372036854775808)) (.add (.x 1) (.c 1))) (.le (.add (.x 1) (.c 1)) (.c 9223372036854775807)))
  (.again 0 ⟨1, 0, 1, 0, 0, 0⟩ ⟨3, 1, 1, 0, 0, 0⟩ ⟨[(.add (.x 1) (.c 1)), (.x 2)], [(.c false)], [], [], [], []⟩)))
  (.ite (.and (.and (.and (.and (.not (.x 0)) (.not (.eqI (.at (.x 0) (.x 1)) (.c 32)))) (.not (.eqI (.at (.x 0) (.x 1)) (.c 9)))) (.not (.eqI (.at (.x 0) (.x 1)) (.c 13)))) (.not (.eqI (.at (.x 0) (.x 1)) (.c 10))))
  (.ret (.p (.one (.i .i64 (.x 1)))))
  (.need (.c true) (.and (.le (.c (-9223372036854775808)) (.add (.x 1) (.c 1))) (.le (.add (.x 1) (.c 1)) (.c 9223372036854775807)))
  (.again 0 ⟨1, 0, 1, 0, 0, 0⟩ ⟨3, 1, 1, 0, 0, 0⟩ ⟨[(.add (.x 1) (.c 1)), (.x 2)], [(.x 0)], [], [], [], []⟩))))))
  (.ret (.p (.one (.i .i64 (.x 1)))))))
theorem gen_rskip : genFn ⟨true, []⟩ Tryz.prog (fun l => ([⟨[5, 4, 1], [7, 8, 9, 10, 11, 12, 13, 6, 14, 15, 16, 17, 18, 19, 20, 21, 22, 23, 24, 25, 26, 27, 28, 29, 30, 31, 32, 33, 34, 35, 36, 37, 38], []⟩] : List LAnn).getD l ⟨[], [], []⟩) Tryz.f23 = fm_rskip := by kernel_rfl
theorem ps_rskip : freshPs Tryz.prog .zero Tryz.f23.params.toList = some ([(.one (.s (.x 0))), (.one (.i .i64 (.x 0)))], ⟨1, 0, 1, 0, 0, 0⟩) := by kernel_rfl
def fm_place : Fm := (.loop 0 ⟨[(.c 1), (.c 1), (.c 0)], [], [], [], [], []⟩
  (.ite (.lt (.x 3) (.x 0))
  (.need (.c true) (.and (.le (.c (-9223372036854775808)) (.add (.x 2) (.c 1))) (.le (.add (.x 2) (.c 1)) (.c 9223372036854775807)))
  (.need (.c true) (.and (.le (.c 0) (.x 3)) (.lt (.x 3) (.len (.x 0))))
  (.ite (.eqI (.at (.x 0) (.x 3)) (.c 10))
  (.need (.c true) (.and (.le (.c (-9223372036854775808)) (.add (.x 1) (.c 1))) (.le (.add (.x 1) (.c 1)) (.c 9223372036854775807)))
  (.need (.c true) (.and (.le (.c (-9223372036854775808)) (.add (.x 3) (.c 1))) (.le (.add (.x 3) (.c 1)) (.c 9223372036854775807)))
  (.again 0 ⟨1, 0, 1, 0, 0, 0⟩ ⟨4, 0, 1, 0, 0, 0⟩ ⟨[(.add (.x 1) (.c 1)), (.c 1), (.add (.x 3) (.c 1))], [], [], [], [], []⟩)))
  (.need (.c true) (.and (.le (.c (-9223372036854775808)) (.add (.x 3) (.c 1))) (.le (.add (.x 3) (.c 1)) (.c 9223372036854775807)))
  (.again 0 ⟨1, 0, 1, 0, 0, 0⟩ ⟨4, 0, 1, 0, 0, 0⟩ ⟨[(.x 1), (.add (.x 2) (.c 1)), (.add (.x 3) (.c 1))], [], [], [], [], []⟩)))))
  (.ret (.tup [(.one (.i .i64 (.x 1))), (.one (.i .i64 (.x 2)))]))))
theorem gen_place : genFn ⟨true, []⟩ Tryz.prog (fun l => ([⟨[7, 6, 8], [9, 10, 11, 14, 15, 16, 17, 18, 19, 20, 21, 12, 13], []⟩] : List LAnn).getD l ⟨[], [], []⟩) Tryz.f24 = fm_place := by kernel_rfl
theorem ps_place : freshPs Tryz.prog .zero Tryz.f24.params.toList = some ([(.one (.s (.x 0))), (.one (.i .i64 (.x 0)))], ⟨1, 0, 1, 0, 0, 0⟩) := by kernel_rfl
set_option maxHeartbeats 2000000 in
def ctRInner : Ct Tryz.prog where
  f := 51
  spec := fun args h φ => ∃ s i, args = [.string (B s), .int .i64 i] ∧ 0 ≤ i ∧ i ≤ s.length ∧ s.length ≤ 1000000 ∧ φ (.int .i64 (i + rn inB s i.toNat)) h
  ok := by
    rintro args h φ w ⟨s, i, rfl, h0, h1, h2, hφ⟩ hH
    obtain ⟨a, rfl⟩ : ∃ n : Nat, i = n := ⟨i.toNat, by omega⟩
    rw [Int.toNat_natCast] at hφ
    refine by_fm Tryz.func51 gen_rinner ps_rinner [ctKind] φ (fun _ C => ∃ k : Nat, C = ⟨[a, k], [], [s], [], [], [], h, noM⟩ ∧ a ≤ k ∧ k ≤ s.length ∧ rn inB s a = (k - a) + rn inB s k) (fun _ C => (s.length - C.i.getD 1 0).toNat) ⟨[a], [], [s], [], [], [], h, noM⟩ ⟨rfl, rfl, rfl, rfl, rfl, rfl⟩ ones_nil ?_ w hH rfl
    refine loop_intro ⟨a, rfl, Nat.le_refl _, by omega, by omega⟩ ?_
    rintro i bb ss v ll pp hh M ⟨k, hC, h3, h4, h5⟩ hM
    cases hC
    have hM' : M 0 = ((s.length : Int) - k).toNat := hM
    have fin : rn inB s k = 0 → φ (.int .i64 k) h := fun h0 => by
      rw [h0] at h5
      rw [show (k : Int) = (a : Int) + (rn inB s a : Int) by omega]; exact hφ
    by_cases hk : k < s.length
    · have hlt : (k : Int) < s.length := by omega
      by_cases hb : 0 < kdi (bt s k)
      · have hy := rn_yes (p := inB) hk (by simp [inB, hb])
        simp [go_sem, ctKind, hlt, hb]
        (repeat' apply And.intro) <;> first | omega | exact ⟨k + 1, by omega, by omega, by omega, by omega⟩
      · have hn := rn_no (p := inB) hk (by simp [inB]; omega)
        have := fin hn
        simp [go_sem, ctKind, hlt, hb, this]
    · have hge : ¬ ((k : Int) < s.length) := by omega
      have := fin (rn_end (by omega))
      simp [go_sem, ctKind, hge, this]
set_option maxHeartbeats 4000000 in
def ctRSkip : Ct Tryz.prog where
  f := 23
  spec := fun args h φ => ∃ s i, args = [.string (B s), .int .i64 i] ∧ 0 ≤ i ∧ i ≤ s.length ∧ s.length ≤ 1000000 ∧ φ (.int .i64 (i + ski false s i.toNat)) h
  ok := by
    rintro args h φ w ⟨s, i, rfl, h0, h1, h2, hφ⟩ hH
    obtain ⟨a, rfl⟩ : ∃ n : Nat, i = n := ⟨i.toNat, by omega⟩
    rw [Int.toNat_natCast] at hφ
    refine by_fm Tryz.func23 gen_rskip ps_rskip [] φ (fun _ C => ∃ (k : Nat) (y : Int) (note : Bool), C = ⟨[a, k, y], [note], [s], [], [], [], h, noM⟩ ∧ a ≤ k ∧ k ≤ s.length ∧ ski false s a = (k - a) + ski note s k) (fun _ C => (s.length - C.i.getD 1 0).toNat) ⟨[a], [], [s], [], [], [], h, noM⟩ ⟨rfl, rfl, rfl, rfl, rfl, rfl⟩ ones_nil ?_ w hH rfl
    refine loop_intro ⟨a, 0, false, rfl, Nat.le_refl _, by omega, by omega⟩ ?_
    rintro i bb ss v ll pp hh M ⟨k, y, note, hC, h3, h4, h5⟩ hM
    cases hC
    have hM' : M 0 = ((s.length : Int) - k).toNat := hM
    have fin : ski note s k = 0 → φ (.int .i64 k) h := fun h0 => by
      rw [h0] at h5
      rw [show (k : Int) = (a : Int) + (ski false s a : Int) by omega]; exact hφ
    by_cases hk : k < s.length
    · have hlt : (k : Int) < s.length := by omega
      have hs := ski_at hk note
      have step : skP (bt s k) (skG (bt s k) note) = true → ski false s a = (k + 1 - a) + ski (skG (bt s k) note) s (k + 1) := fun h => by rw [h, if_pos rfl] at hs; omega
      have stop : skP (bt s k) (skG (bt s k) note) = false → φ (.int .i64 k) h := fun h => fin (by rw [hs, h]; rfl)
      by_cases e35 : bt s k = 35
      · have := step (by rw [e35]; simp [skG, skP])
        rw [show skG (bt s k) note = true by rw [e35]; simp [skG]] at this
        simp [go_sem, hlt, e35]
        (repeat' apply And.intro) <;> first | omega | exact ⟨k + 1, by omega, by omega, by omega, this⟩
      · by_cases e10 : bt s k = 10
        · have := step (by rw [e10]; simp [skG, skP])
          rw [show skG (bt s k) note = false by rw [e10]; simp [skG]] at this
          simp [go_sem, hlt, e10]
          (repeat' apply And.intro) <;> first | omega | exact ⟨k + 1, by omega, by omega, by omega, this⟩
        · have eG : skG (bt s k) note = note := by
            have f1 : (bt s k == 35) = false := by simpa using e35
            have f2 : (bt s k == 10) = false := by simpa using e10
            simp [skG, f1, f2]
          rw [eG] at step stop
          cases note with
          | true =>
            have := step (by simp [skP])
            simp [go_sem, hlt, e35, e10]
            (repeat' apply And.intro) <;> first | omega | exact ⟨k + 1, by omega, by omega, by omega, this⟩
          | false =>
            by_cases hb : bt s k = 32 ∨ bt s k = 9 ∨ bt s k = 13
            · have := step (by rcases hb with hb | hb | hb <;> rw [hb] <;> rfl)
              rcases hb with hb | hb | hb
              all_goals
                simp [go_sem, hlt, hb]
                (repeat' apply And.intro) <;> first | omega | exact ⟨k + 1, by omega, by omega, by omega, this⟩
            · have b1 : bt s k ≠ 32 := fun h => hb (.inl h)
              have b2 : bt s k ≠ 9 := fun h => hb (.inr (.inl h))
              have b3 : bt s k ≠ 13 := fun h => hb (.inr (.inr h))
              have := stop (by simp [skP, b1, b2, b3, e10])
              simp [go_sem, hlt, e35, e10, b1, b2, b3, this]
    · have hge : ¬ ((k : Int) < s.length) := by omega
      have := fin (ski_end (by omega) _)
      simp [go_sem, hge, this]
set_option maxHeartbeats 2000000 in
def ctPlace : Ct Tryz.prog where
  f := 24
  spec := fun args h φ => ∃ s i, args = [.string (B s), .int .i64 i] ∧ 0 ≤ i ∧ i ≤ s.length ∧ s.length ≤ 1000000 ∧ φ (.tuple #[.int .i64 (adv (1, 1) (sub s 0 i.toNat)).1, .int .i64 (adv (1, 1) (sub s 0 i.toNat)).2]) h
  ok := by
    rintro args h φ w ⟨s, i, rfl, h0, h1, h2, hφ⟩ hH
    obtain ⟨a, rfl⟩ : ∃ n : Nat, i = n := ⟨i.toNat, by omega⟩
    rw [Int.toNat_natCast] at hφ
    refine by_fm Tryz.func24 gen_place ps_place [] φ (fun _ C => ∃ (k : Nat), C = ⟨[a, (adv (1, 1) (sub s 0 k)).1, (adv (1, 1) (sub s 0 k)).2, k], [], [s], [], [], [], h, noM⟩ ∧ k ≤ a) (fun _ C => (a - C.i.getD 3 0).toNat) ⟨[a], [], [s], [], [], [], h, noM⟩ ⟨rfl, rfl, rfl, rfl, rfl, rfl⟩ ones_nil ?_ w hH rfl
    refine loop_intro ⟨0, rfl, Nat.zero_le _⟩ ?_
    rintro i bb ss v ll pp hh M ⟨k, hC, h3⟩ hM
    cases hC
    have hM' : M 0 = ((a : Int) - k).toNat := hM
    have hbd := adv_bd (1, 1) (sub s 0 k) (by decide) (by decide)
    rw [sub_len s (by omega)] at hbd
    by_cases hk : k < a
    · have hlt : (k : Int) < a := by omega
      have hkl : k < s.length := by omega
      have hs := adv_snoc (1, 1) s (Nat.zero_le k) hkl
      generalize hq : adv (1, 1) (sub s 0 k) = q at *
      obtain ⟨L, Co⟩ := q
      simp only at hbd
      by_cases e10 : bt s k = 10
      · rw [ad, if_pos e10] at hs
        simp [go_sem, hlt, hkl, e10]
        (repeat' apply And.intro) <;> first | omega | exact ⟨k + 1, by rw [hs], by rw [hs], by omega, by omega⟩
      · rw [ad, if_neg e10] at hs
        simp [go_sem, hlt, hkl, e10]
        (repeat' apply And.intro) <;> first | omega | exact ⟨k + 1, by rw [hs], by rw [hs], by omega, by omega⟩
    · have hka : k = a := by omega
      subst hka
      simp [go_sem]
      exact hφ
end Go.Proofs.YthlakehilhpojaaGreatDoor
namespace Go.Proofs.YthlakehilhpojaaGreatDoor
open Go.RowKit
attribute [local go_sem] says_tt says_ff says_need says_ite says_call says_callK says_load says_store says_mk says_new says_mks says_str says_ret says_again says_app BE.den IE.den SE.den LE.den AE.den CE.den PE.den VE.den KV.val Got.den Got.cnt exI allI exL allL Ctx.push Ctx.heap Ctx.cut Ctx.bare Ctx.mark Inc.blank List.getD_cons_zero List.getD_cons_succ List.cons_append List.nil_append List.append_nil List.map_cons List.map_nil List.replicate_zero List.replicate_succ specOf ltB_t leB_t ltB_f leB_f slc_val slc_nil slc_inj pt_val pt_nil hle_noHeap hle_refl hread_set hwrite_set set_same set_set noHeap_at B_inj ones_nil and_assoc
def fm_word : Fm := (.ite (.eqS (.x 0) (.c [114, 101, 99]))
  (.ite (.eqS (.x 0) (.c [114, 101, 99]))
  (.ret (.p (.one (.b (.c true)))))
  (.ret (.p (.one (.b (.c false))))))
  (.ite (.eqS (.x 0) (.c [102, 110]))
  (.ite (.eqS (.x 0) (.c [102, 110]))
  (.ret (.p (.one (.b (.c true)))))
  (.ret (.p (.one (.b (.c false))))))
  (.ite (.eqS (.x 0) (.c [118, 97, 114]))
  (.ite (.eqS (.x 0) (.c [118, 97, 114]))
  (.ret (.p (.one (.b (.c true)))))
  (.ret (.p (.one (.b (.c false))))))
  (.ite (.eqS (.x 0) (.c [105, 102]))
  (.ite (.eqS (.x 0) (.c [105, 102]))
  (.ret (.p (.one (.b (.c true)))))
  (.ret (.p (.one (.b (.c false))))))
  (.ite (.eqS (.x 0) (.c [101, 108, 115, 101]))
  (.ite (.eqS (.x 0) (.c [101, 108, 115, 101]))
  (.ret (.p (.one (.b (.c true)))))
  (.ret (.p (.one (.b (.c false))))))
  (.ite (.eqS (.x 0) (.c [119, 104, 105, 108, 101]))
  (.ite (.eqS (.x 0) (.c [119, 104, 105, 108, 101]))
  (.ret (.p (.one (.b (.c true)))))
  (.ret (.p (.one (.b (.c false))))))
  (.ite (.eqS (.x 0) (.c [114, 101, 116, 117, 114, 110]))
  (.ite (.eqS (.x 0) (.c [114, 101, 116, 117, 114, 110]))
  (.ret (.p (.one (.b (.c true)))))
  (.ret (.p (.one (.b (.c false))))))
  (.ite (.eqS (.x 0) (.c [112, 114, 105, 110, 116]))
  (.ite (.eqS (.x 0) (.c [112, 114, 105, 110, 116]))
  (.ret (.p (.one (.b (.c true)))))
  (.ret (.p (.one (.b (.c false))))))
  (.ite (.eqS (.x 0) (.c [116, 114, 117, 101]))
  (.ite (.eqS (.x 0) (.c [116, 114, 117, 101]))
  (.ret (.p (.one (.b (.c true)))))
  (.ret (.p (.one (.b (.c false))))))
  (.ite (.eqS (.x 0) (.c [102, 97, 108, 115, 101]))
  (.ite (.eqS (.x 0) (.c [102, 97, 108, 115, 101]))
  (.ret (.p (.one (.b (.c true)))))
  (.ret (.p (.one (.b (.c false))))))
  (.ite (.eqS (.x 0) (.c [110, 105, 108]))
  (.ite (.eqS (.x 0) (.c [110, 105, 108]))
  (.ret (.p (.one (.b (.c true)))))
  (.ret (.p (.one (.b (.c false))))))
  (.ite (.eqS (.x 0) (.c [109, 97, 107, 101]))
  (.ite (.eqS (.x 0) (.c [109, 97, 107, 101]))
  (.ret (.p (.one (.b (.c true)))))
  (.ret (.p (.one (.b (.c false))))))
  (.ite (.eqS (.x 0) (.c [105, 110, 116]))
  (.ite (.eqS (.x 0) (.c [105, 110, 116]))
  (.ret (.p (.one (.b (.c true)))))
  (.ret (.p (.one (.b (.c false))))))
  (.ite (.eqS (.x 0) (.c [98, 111, 111, 108]))
  (.ite (.eqS (.x 0) (.c [98, 111, 111, 108]))
  (.ret (.p (.one (.b (.c true)))))
  (.ret (.p (.one (.b (.c false))))))
  (.ite (.eqS (.x 0) (.c [115, 116, 114]))
  (.ite (.eqS (.x 0) (.c [115, 116, 114]))
  (.ret (.p (.one (.b (.c true)))))
  (.ret (.p (.one (.b (.c false))))))
  (.ite (.eqS (.x 0) (.c [99, 111, 109, 112]))
  (.ret (.p (.one (.b (.c true)))))
  (.ret (.p (.one (.b (.c false)))))))))))))))))))))
theorem gen_word : genFn ⟨true, []⟩ Tryz.prog (fun l => ([] : List LAnn).getD l ⟨[], [], []⟩) Tryz.f70 = fm_word := by kernel_rfl
theorem ps_word : freshPs Tryz.prog .zero Tryz.f70.params.toList = some ([(.one (.s (.x 0)))], ⟨0, 0, 1, 0, 0, 0⟩) := by kernel_rfl
def fm_rword : Fm := (.mk [(.s (.c [114, 101, 99])), (.s (.c [102, 110])), (.s (.c [118, 97, 114])), (.s (.c [105, 102])), (.s (.c [101, 108, 115, 101])), (.s (.c [119, 104, 105, 108, 101])), (.s (.c [114, 101, 116, 117, 114, 110])), (.s (.c [112, 114, 105, 110, 116])), (.s (.c [116, 114, 117, 101])), (.s (.c [102, 97, 108, 115, 101])), (.s (.c [110, 105, 108])), (.s (.c [109, 97, 107, 101])), (.s (.c [105, 110, 116])), (.s (.c [98, 111, 111, 108])), (.s (.c [115, 116, 114])), (.s (.c [99, 111, 109, 112]))] 9 16
  (.loop 0 ⟨[(.c 0)], [(.c false)], [], [], [], []⟩
  (.ite (.lt (.x 0) (.cnt (.x 0)))
  (.need (.c true) (.and (.and (.le (.c 0) (.x 0)) (.lt (.x 0) (.cnt (.x 0)))) (.nns (.x 0)))
  (.load (.c true) (.el (.x 0) (.x 0) 1 0) 1 [(.s (.x 1))] ⟨0, 0, 1, 0, 0, 0⟩
  (.ite (.eqS (.x 1) (.x 0))
  (.ret (.p (.one (.b (.c true)))))
  (.need (.c true) (.and (.le (.c (-9223372036854775808)) (.add (.x 0) (.c 1))) (.le (.add (.x 0) (.c 1)) (.c 9223372036854775807)))
  (.again 0 ⟨0, 0, 1, 0, 1, 0⟩ ⟨1, 1, 1, 0, 1, 0⟩ ⟨[(.add (.x 0) (.c 1))], [(.x 0)], [], [], [], []⟩)))))
  (.ret (.p (.one (.b (.c false))))))))
theorem gen_rword : genFn ⟨true, []⟩ Tryz.prog (fun l => ([⟨[2, 8], [9, 10, 4, 11, 12, 13, 14, 15, 16, 17], []⟩] : List LAnn).getD l ⟨[], [], []⟩) Tryz.f52 = fm_rword := by kernel_rfl
theorem ps_rword : freshPs Tryz.prog .zero Tryz.f52.params.toList = some ([(.one (.s (.x 0)))], ⟨0, 0, 1, 0, 0, 0⟩) := by kernel_rfl
def fm_name : Fm := (.call (.c true) false 67 [(.one (.pt 0)), (.one (.c (.fn 69)))] (.p (.one (.i .i64 (.x 4)))) ⟨1, 0, 0, 0, 0, 0⟩
  (.load (.c true) (.pt 0 0) 1 [(.s (.x 1))] ⟨0, 0, 1, 0, 0, 0⟩
  (.load (.c true) (.pt 0 1) 1 [(.i .i64 (.x 5))] ⟨1, 0, 0, 0, 0, 0⟩
  (.load (.c true) (.pt 0 1) 1 [(.i .i64 (.x 6))] ⟨1, 0, 0, 0, 0, 0⟩
  (.need (.c true) (.nnp 0)
  (.need (.c true) (.nnp 0)
  (.need (.c true) (.nnp 0)
  (.need (.c true) (.nnp 0)
  (.need (.c true) (.nnp 0)
  (.need (.c true) (.nnp 0)
  (.need (.c true) (.and (.le (.c (-9223372036854775808)) (.add (.x 6) (.x 4))) (.le (.add (.x 6) (.x 4)) (.c 9223372036854775807)))
  (.need (.c true) (.and (.and (.le (.c 0) (.add (.x 6) (.x 4))) (.le (.add (.x 6) (.x 4)) (.len (.x 1)))) (.and (.le (.c 0) (.x 5)) (.le (.x 5) (.add (.x 6) (.x 4)))))
  (.need (.c true) (.and (.le (.c 0) (.c 0)) (.lt (.c 0) (.len (.sub (.x 1) (.x 5) (.add (.x 6) (.x 4))))))
  (.call (.c true) false 40 [(.one (.i .u8 (.at (.sub (.x 1) (.x 5) (.add (.x 6) (.x 4))) (.c 0))))] (.p (.one (.b (.x 0)))) ⟨0, 1, 0, 0, 0, 0⟩
  (.ite (.x 0)
  (.call (.c true) false 66 [(.one (.pt 0)), (.one (.i .i64 (.x 4)))] (.tup []) ⟨0, 0, 0, 0, 0, 0⟩
  (.ret (.p (.agg [(.i .u8 (.c 2)), (.i .i64 (.x 1)), (.i .i64 (.x 2)), (.i .i64 (.x 3)), (.s (.sub (.x 1) (.x 5) (.add (.x 6) (.x 4))))]))))
  (.call (.c true) false 70 [(.one (.s (.sub (.x 1) (.x 5) (.add (.x 6) (.x 4)))))] (.p (.one (.b (.x 1)))) ⟨0, 1, 0, 0, 0, 0⟩
  (.ite (.x 1)
  (.call (.c true) false 66 [(.one (.pt 0)), (.one (.i .i64 (.x 4)))] (.tup []) ⟨0, 0, 0, 0, 0, 0⟩
  (.ret (.p (.agg [(.i .u8 (.c 6)), (.i .i64 (.x 1)), (.i .i64 (.x 2)), (.i .i64 (.x 3)), (.s (.sub (.x 1) (.x 5) (.add (.x 6) (.x 4))))]))))
  (.call (.c true) false 66 [(.one (.pt 0)), (.one (.i .i64 (.x 4)))] (.tup []) ⟨0, 0, 0, 0, 0, 0⟩
  (.ret (.p (.agg [(.i .u8 (.c 1)), (.i .i64 (.x 1)), (.i .i64 (.x 2)), (.i .i64 (.x 3)), (.s (.sub (.x 1) (.x 5) (.add (.x 6) (.x 4))))])))))))))))))))))))))
theorem gen_name : genFn ⟨true, []⟩ Tryz.prog (fun l => ([] : List LAnn).getD l ⟨[], [], []⟩) Tryz.f41 = fm_name := by kernel_rfl
theorem ps_name : freshPs Tryz.prog .zero Tryz.f41.params.toList = some ([(.one (.pt 0)), (.agg [(.i .u8 (.x 0)), (.i .i64 (.x 1)), (.i .i64 (.x 2)), (.i .i64 (.x 3)), (.s (.x 0))])], ⟨4, 0, 1, 0, 0, 1⟩) := by kernel_rfl
/-- The words. -/
def W16 : List (List UInt8) := [[114, 101, 99], [102, 110], [118, 97, 114], [105, 102], [101, 108, 115, 101], [119, 104, 105, 108, 101], [114, 101, 116, 117, 114, 110], [112, 114, 105, 110, 116], [116, 114, 117, 101], [102, 97, 108, 115, 101], [110, 105, 108], [109, 97, 107, 101], [105, 110, 116], [98, 111, 111, 108], [115, 116, 114], [99, 111, 109, 112]]
def wordB (s : List UInt8) : Bool := W16.contains s
set_option maxHeartbeats 4000000 in
def ctWord : Ct Tryz.prog where
  f := 70
  spec := fun args h φ => ∃ s, args = [.string (B s)] ∧ φ (.bool (wordB s)) h
  ok := by
    rintro args h φ w ⟨s, rfl, hφ⟩ hH
    refine by_fm Tryz.func70 gen_word ps_word [] φ noInv noMeas ⟨[], [], [s], [], [], [], h, noM⟩ ⟨rfl, rfl, rfl, rfl, rfl, rfl⟩ ones_nil ?_ w hH rfl
    by_cases hs : s ∈ W16
    · have e : wordB s = true := by simpa [wordB] using hs
      rw [e] at hφ
      simp only [W16, List.mem_cons, List.not_mem_nil, or_false] at hs
      rcases hs with rfl | rfl | rfl | rfl | rfl | rfl | rfl | rfl | rfl | rfl | rfl | rfl | rfl | rfl | rfl | rfl
      all_goals simp [fm_word, go_sem, hφ]
    · have e : wordB s = false := by simpa [wordB] using hs
      rw [e] at hφ
      simp only [W16, List.mem_cons, List.not_mem_nil, or_false, not_or] at hs
      obtain ⟨h1, h2, h3, h4, h5, h6, h7, h8, h9, h10, h11, h12, h13, h14, h15, h16⟩ := hs
      simp [fm_word, go_sem, hφ, h1, h2, h3, h4, h5, h6, h7, h8, h9, h10, h11, h12, h13, h14, h15, h16]
def wCells : List Value := W16.map fun x => .string (B x)
set_option maxHeartbeats 4000000 in
def ctRWord : Ct Tryz.prog where
  f := 52
  spec := fun args h φ => ∃ s, args = [.string (B s)] ∧ ∀ k, HLe h k → φ (.bool (wordB s)) k
  ok := by
    rintro args h φ w ⟨s, rfl, hφ⟩ hH
    refine by_fm Tryz.func52 gen_rword ps_rword [] φ (fun _ C => ∃ (b : Nat) (i : Nat) (y : Bool), h b = none ∧ C = ⟨[i], [y], [s], [], [⟨some (b, 0), 16, 16⟩], [], h.set b ⟨wCells, 9⟩, noM⟩ ∧ i ≤ 16 ∧ ∀ j, j < i → W16[j]? ≠ some s) (fun _ C => (16 - C.i.getD 0 0).toNat) ⟨[], [], [s], [], [], [], h, noM⟩ ⟨rfl, rfl, rfl, rfl, rfl, rfl⟩ ones_nil ?_ w hH rfl
    rw [fm_rword, says_mk]
    intro b hb
    refine loop_intro ⟨b, 0, false, hb, rfl, by omega, by omega⟩ ?_
    rintro i bb ss v ll pp hh M ⟨b, k, y, hb, hC, h3, h4⟩ hM
    cases hC
    have hM' : M 0 = ((16 : Int) - k).toNat := hM
    have hk := hle_set hb ⟨wCells, 9⟩
    by_cases hlt : k < 16
    · have hlt' : (k : Int) < 16 := by omega
      have hx : k < W16.length := hlt
      have hget : (wCells.drop k).take 1 = [.string (B W16[k])] := by
        rw [List.drop_eq_getElem_cons (by simpa [wCells] using hx)]
        simp [wCells]
      have hwl : wCells.length = 16 := rfl
      by_cases he : W16[k] = s
      · have e : wordB s = true := by rw [← he]; simp [wordB]
        have := hφ _ hk
        rw [e] at this
        simp [go_sem, hlt', hget, hwl, he, this]
        omega
      · have hne : ∀ j, j < k + 1 → W16[j]? ≠ some s := fun j hj => by
          by_cases hjk : j = k
          · subst hjk; rw [List.getElem?_eq_getElem hx]; simpa using he
          · exact h4 j (by omega)
        simp [go_sem, hlt', hget, hwl, he]
        refine ⟨by omega, by omega, by omega, ⟨b, hb, k + 1, by cases y <;> simp, by omega, by simpa using hne⟩, by omega⟩
    · have hge : ¬ ((k : Int) < 16) := by omega
      have e : wordB s = false := by
        cases hq : wordB s
        · rfl
        · exfalso
          have hm : s ∈ W16 := by simpa [wordB] using hq
          obtain ⟨j, hj⟩ := List.getElem?_of_mem hm
          have hjl : j < 16 := (List.getElem?_eq_some_iff.1 hj).1
          exact h4 j (by omega) hj
      have := hφ _ hk
      rw [e] at this
      simp [go_sem, hge, this]
/-- A token's cells. -/
def tkv (k l c n : Int) (x : List UInt8) : Value := .agg #[.int .u8 k, .int .i64 l, .int .i64 c, .int .i64 n, .string (B x)]
/-- The kind of a name. -/
def nameK (b : Int) (x : List UInt8) : Int := if kdi b = 2 then 2 else if wordB x then 6 else 1
theorem bt_sub (s : List UInt8) (i j : Nat) (h : i < j) (_hj : j ≤ s.length) : bt (sub s i j) 0 = bt s i := by
  unfold sub
  rw [bt_drop, Nat.add_zero]
  unfold bt
  simp [List.getD_eq_getElem?_getD, h]
set_option maxHeartbeats 4000000 in
def ctName : Ct Tryz.prog where
  f := 41
  spec := fun args h φ => ∃ b k l c n x s a L Co T, args = [.pointer (some ⟨b, 0, none⟩), tkv k l c n x] ∧ h b = some ⟨rc s a L Co, T⟩ ∧ 0 ≤ a ∧ a < s.length ∧ s.length ≤ 100000 ∧ 0 ≤ Co ∧ Co ≤ 500000 ∧ inB (bt s a.toNat) = true ∧
    φ (tkv (nameK (bt s a.toNat) (sub s a.toNat (a.toNat + rn inB s a.toNat))) l c n (sub s a.toNat (a.toNat + rn inB s a.toNat))) (h.set b ⟨rc s (a + rn inB s a.toNat) L (Co + rn inB s a.toNat), T⟩)
  ok := by
    rintro args h φ w ⟨b, k, l, c, n, x, s, a, L, Co, T, rfl, hb, h0, h1, h2, c0, c1, hin, hφ⟩ hH
    obtain ⟨h, rfl⟩ : ∃ h', h = Hp.set h' b ⟨rc s a L Co, T⟩ := ⟨h, set_self hb⟩
    obtain ⟨a, rfl⟩ : ∃ n : Nat, a = n := ⟨a.toNat, by omega⟩
    rw [Int.toNat_natCast] at hφ hin
    rw [set_set] at hφ
    have hle := rn_le (p := inB) (s := s) (i := a) (by omega)
    have hy := rn_yes (p := inB) (s := s) (i := a) (by omega) hin
    have hb0 := bt_sub s a (a + rn inB s a) (by omega) hle
    have hsl := sub_len s (i := a) hle
    refine by_fm Tryz.func41 gen_name ps_name [ctRun, ctGreat, ctWord, ctPass] φ noInv noMeas ⟨[k, l, c, n], [], [x], [], [], [some (b, 0)], h.set b ⟨rc s a L Co, T⟩, noM⟩ ⟨rfl, rfl, rfl, rfl, rfl, rfl⟩ ones_nil ?_ w hH rfl
    generalize hN : rn inB s a = N at *
    have e1 : ((a : Int) + (N : Int)).toNat = a + N := by omega
    have e2 : List.drop a (List.take (a + N) s) = sub s a (a + N) := rfl
    cases hg : grB (bt s a)
    · have hk : ¬ kdi (bt s a) = 2 := by simpa [grB] using hg
      cases hw : wordB (sub s a (a + N))
      · rw [nameK, if_neg hk, hw] at hφ
        simp [fm_name, go_sem, rc, ctRun, runSpec, ctGreat, ctWord, ctPass, hN, e1, e2, hb0, hg, hw]
        (repeat' apply And.intro) <;> first | omega | simpa [rc, tkv] using hφ
      · rw [nameK, if_neg hk, hw] at hφ
        simp [fm_name, go_sem, rc, ctRun, runSpec, ctGreat, ctWord, ctPass, hN, e1, e2, hb0, hg, hw]
        (repeat' apply And.intro) <;> first | omega | simpa [rc, tkv] using hφ
    · have hk : kdi (bt s a) = 2 := by simpa [grB] using hg
      rw [nameK, if_pos hk] at hφ
      simp [fm_name, go_sem, rc, ctRun, runSpec, ctGreat, ctWord, ctPass, hN, e1, e2, hb0, hg]
      (repeat' apply And.intro) <;> first | omega | simpa [rc, tkv] using hφ
end Go.Proofs.YthlakehilhpojaaGreatDoor
namespace Go.Proofs
open Go.Shelf
def Tryz.lays169_ren : Go.Shelf.Ren := ⟨fun | 169 => 103 | n => n, fun | 70 => 125 | 9 => 9 | 0 => 0 | 72 => 127 | 37 => 105 | 127 => 134 | 3 => 3 | 5 => 5 | n => n, fun | n => n⟩
theorem Tryz.lays169 : Go.Proofs.Lays.n169 Tryz.prog Tryz.lays169_ren := {
  mixed := by kernel_rfl
  f169 := Tryz.func103.trans (congrArg some (by kernel_rfl))
  t0 := Tryz.underlying0
  a0 := Tryz.isAgg0
  z0 := Tryz.sizeOf0
  v0 := Tryz.zeroValue0
  t3 := Tryz.underlying3
  a3 := Tryz.isAgg3
  z3 := Tryz.sizeOf3
  v3 := Tryz.zeroValue3
  t9 := Tryz.underlying9
  a9 := Tryz.isAgg9
  z9 := Tryz.sizeOf9
  v9 := Tryz.zeroValue9
  t37 := Tryz.underlying105
  a37 := Tryz.isAgg105
  z37 := Tryz.sizeOf105
  v37 := Tryz.zeroValue105
  t70 := Tryz.underlying125
  a70 := Tryz.isAgg125
  z70 := Tryz.sizeOf125
  v70 := Tryz.zeroValue125
  t72 := Tryz.underlying127
  a72 := Tryz.isAgg127
  z72 := Tryz.sizeOf127
  v72 := Tryz.zeroValue127
  t127 := Tryz.underlying134
  a127 := Tryz.isAgg134
  z127 := Tryz.sizeOf134
  v127 := Tryz.zeroValue134 }
theorem Tryz.Builder_Extra_169 : Builder.Extra Tryz.prog Tryz.lays169_ren := {
  sizeBuilder := by kernel_rfl
  liesBuilder := by kernel_rfl
  t5 := Tryz.underlying5
  a5 := Tryz.isAgg5
  z5 := Tryz.sizeOf5
  v5 := Tryz.zeroValue5
  infoByte := by kernel_rfl
  cellsByte := by kernel_rfl
  sizeByte := by kernel_rfl
  neB5 := by decide }
open Go.RowKit in
theorem Tryz.Builder_String (B b : Nat) (l : List UInt8) (w : World) (h : Lib.IsBuilder 127 5 B b (Lib.byteCells l) w) (h0 : l ≠ []) :
    Calls Tryz.prog 103 #[.pointer (some ⟨b, 0, none⟩)] w fun e w' => e = .returned (.string ⟨l.toArray⟩) ∧ Below B w w' := Any.Builder_String Tryz.lays169 Tryz.Builder_Extra_169 B b l w h h0
open Go.RowKit in
theorem Tryz.Builder_String_empty (B b : Nat) (w : World) (h : Lib.IsBuilder 127 5 B b [] w) (hBw : B ≤ w.heap.size) :
    Calls Tryz.prog 103 #[.pointer (some ⟨b, 0, none⟩)] w fun e w' => e = .returned (.string ⟨#[]⟩) ∧ Below B w w' := Any.Builder_String_empty Tryz.lays169 Tryz.Builder_Extra_169 B b w h hBw
open Go.RowKit in
theorem Tryz.Builder_String_any (B b : Nat) (l : List UInt8) (w : World) (h : Lib.IsBuilder 127 5 B b (Lib.byteCells l) w) (hBw : B ≤ w.heap.size) :
    Calls Tryz.prog 103 #[.pointer (some ⟨b, 0, none⟩)] w fun e w' => e = .returned (.string ⟨l.toArray⟩) ∧ Below B w w' := Any.Builder_String_any Tryz.lays169 Tryz.Builder_Extra_169 B b l w h hBw
def Tryz.lays231_ren : Go.Shelf.Ren := ⟨fun | 231 => 87 | n => n, fun | 9 => 9 | 5 => 5 | 3 => 3 | 4 => 4 | n => n, fun | n => n⟩
theorem Tryz.lays231 : Go.Proofs.Lays.n231 Tryz.prog Tryz.lays231_ren := {
  mixed := by kernel_rfl
  f231 := Tryz.func87.trans (congrArg some (by kernel_rfl))
  t3 := Tryz.underlying3
  a3 := Tryz.isAgg3
  z3 := Tryz.sizeOf3
  v3 := Tryz.zeroValue3
  t4 := Tryz.underlying4
  a4 := Tryz.isAgg4
  z4 := Tryz.sizeOf4
  v4 := Tryz.zeroValue4
  t5 := Tryz.underlying5
  a5 := Tryz.isAgg5
  z5 := Tryz.sizeOf5
  v5 := Tryz.zeroValue5
  t9 := Tryz.underlying9
  a9 := Tryz.isAgg9
  z9 := Tryz.sizeOf9
  v9 := Tryz.zeroValue9 }
open Go.RowKit in
theorem Tryz.strings_trimLeftByte (s : ByteArray) (c : UInt8) (w : World) :
    Calls Tryz.prog 87 #[.string s, .int .u8 c.toNat] w fun e w' => e = .returned (.string ⟨(Lib.trimLeftB s.data.toList c).toArray⟩) ∧ w' = w := Any.strings_trimLeftByte Tryz.lays231 s c w
def Tryz.lays161_ren : Go.Shelf.Ren := ⟨fun | 161 => 71 | 231 => 87 | 227 => 88 | 233 => 89 | 235 => 90 | 228 => 100 | 197 => 101 | 151 => 102 | 260 => 109 | 152 => 110 | 137 => 112 | 119 => 113 | 224 => 114 | 225 => 115 | 217 => 117 | 266 => 118 | n => n, fun | 9 => 9 | 4 => 4 | 3 => 3 | 5 => 5 | 117 => 111 | 116 => 110 | 0 => 0 | 124 => 114 | 105 => 122 | 21 => 21 | 119 => 136 | 46 => 137 | 139 => 140 | 138 => 139 | n => n, fun | 3 => 0 | 4 => 1 | n => n⟩
theorem Tryz.lays161 : Go.Proofs.Lays.n161 Tryz.prog Tryz.lays161_ren := {
  mixed := by kernel_rfl
  f119 := Tryz.func113.trans (congrArg some (by kernel_rfl))
  f137 := Tryz.func112.trans (congrArg some (by kernel_rfl))
  f151 := Tryz.func102.trans (congrArg some (by kernel_rfl))
  f152 := Tryz.func110.trans (congrArg some (by kernel_rfl))
  f161 := Tryz.func71.trans (congrArg some (by kernel_rfl))
  f197 := Tryz.func101.trans (congrArg some (by kernel_rfl))
  f217 := Tryz.func117.trans (congrArg some (by kernel_rfl))
  f224 := Tryz.func114.trans (congrArg some (by kernel_rfl))
  f225 := Tryz.func115.trans (congrArg some (by kernel_rfl))
  f227 := Tryz.func88.trans (congrArg some (by kernel_rfl))
  f228 := Tryz.func100.trans (congrArg some (by kernel_rfl))
  f231 := Tryz.func87.trans (congrArg some (by kernel_rfl))
  f233 := Tryz.func89.trans (congrArg some (by kernel_rfl))
  f235 := Tryz.func90.trans (congrArg some (by kernel_rfl))
  f260 := Tryz.func109.trans (congrArg some (by kernel_rfl))
  f266 := Tryz.func118.trans (congrArg some (by kernel_rfl))
  t0 := Tryz.underlying0
  a0 := Tryz.isAgg0
  z0 := Tryz.sizeOf0
  v0 := Tryz.zeroValue0
  t3 := Tryz.underlying3
  a3 := Tryz.isAgg3
  z3 := Tryz.sizeOf3
  v3 := Tryz.zeroValue3
  t4 := Tryz.underlying4
  a4 := Tryz.isAgg4
  z4 := Tryz.sizeOf4
  v4 := Tryz.zeroValue4
  t5 := Tryz.underlying5
  a5 := Tryz.isAgg5
  z5 := Tryz.sizeOf5
  v5 := Tryz.zeroValue5
  t9 := Tryz.underlying9
  a9 := Tryz.isAgg9
  z9 := Tryz.sizeOf9
  v9 := Tryz.zeroValue9
  t21 := Tryz.underlying21
  a21 := Tryz.isAgg21
  z21 := Tryz.sizeOf21
  v21 := Tryz.zeroValue21
  t46 := Tryz.underlying137
  a46 := Tryz.isAgg137
  z46 := Tryz.sizeOf137
  v46 := Tryz.zeroValue137
  t105 := Tryz.underlying122
  a105 := Tryz.isAgg122
  z105 := Tryz.sizeOf122
  v105 := Tryz.zeroValue122
  t116 := Tryz.underlying110
  a116 := Tryz.isAgg110
  z116 := Tryz.sizeOf110
  t117 := Tryz.underlying111
  a117 := Tryz.isAgg111
  z117 := Tryz.sizeOf111
  v117 := Tryz.zeroValue111
  t119 := Tryz.underlying136
  a119 := Tryz.isAgg136
  z119 := Tryz.sizeOf136
  t124 := Tryz.underlying114
  a124 := Tryz.isAgg114
  z124 := Tryz.sizeOf114
  v124 := Tryz.zeroValue114
  t138 := Tryz.underlying139
  a138 := Tryz.isAgg139
  z138 := Tryz.sizeOf139
  v138 := Tryz.zeroValue139
  t139 := Tryz.underlying140
  a139 := Tryz.isAgg140
  z139 := Tryz.sizeOf140
  v139 := Tryz.zeroValue140
  g3 := by kernel_rfl
  g4 := by kernel_rfl }
open Go.RowKit in
theorem Tryz.strings_TrimLeft_one (s : ByteArray) (c : UInt8) (hc : c.toNat < 128) (w : World) :
    Calls Tryz.prog 71 #[.string s, .string ⟨#[c]⟩] w fun e w' => e = .returned (.string ⟨(Lib.trimLeftB s.data.toList c).toArray⟩) ∧ w' = w := Any.strings_TrimLeft_one Tryz.lays161 s c hc w
def Tryz.lays119_ren : Go.Shelf.Ren := ⟨fun | 119 => 113 | n => n, fun | 21 => 21 | 4 => 4 | n => n, fun | n => n⟩
theorem Tryz.lays119 : Go.Proofs.Lays.n119 Tryz.prog Tryz.lays119_ren := {
  mixed := by kernel_rfl
  f119 := Tryz.func113.trans (congrArg some (by kernel_rfl))
  t4 := Tryz.underlying4
  a4 := Tryz.isAgg4
  z4 := Tryz.sizeOf4
  v4 := Tryz.zeroValue4
  t21 := Tryz.underlying21
  a21 := Tryz.isAgg21
  z21 := Tryz.sizeOf21
  v21 := Tryz.zeroValue21 }
theorem Tryz.utf8_ValidRune (r : Int) (w : World) :
    Calls Tryz.prog 113 #[.int .i32 r] w fun e w' => e = .returned (.bool (Lib.validRune r)) ∧ w' = w := Any.utf8_ValidRune Tryz.lays119 r w
def Tryz.lays137_ren : Go.Shelf.Ren := ⟨fun | 137 => 112 | 217 => 117 | 266 => 118 | n => n, fun | 9 => 9 | 5 => 5 | 3 => 3 | n => n, fun | n => n⟩
theorem Tryz.lays137 : Go.Proofs.Lays.n137 Tryz.prog Tryz.lays137_ren := {
  mixed := by kernel_rfl
  f137 := Tryz.func112.trans (congrArg some (by kernel_rfl))
  f217 := Tryz.func117.trans (congrArg some (by kernel_rfl))
  f266 := Tryz.func118.trans (congrArg some (by kernel_rfl))
  t3 := Tryz.underlying3
  a3 := Tryz.isAgg3
  z3 := Tryz.sizeOf3
  v3 := Tryz.zeroValue3
  t5 := Tryz.underlying5
  a5 := Tryz.isAgg5
  z5 := Tryz.sizeOf5
  v5 := Tryz.zeroValue5
  t9 := Tryz.underlying9
  a9 := Tryz.isAgg9
  z9 := Tryz.sizeOf9
  v9 := Tryz.zeroValue9 }
open Go.RowKit in
theorem Tryz.strings_IndexByte (s : ByteArray) (c : Int) (w : World) :
    Calls Tryz.prog 112 #[.string s, .int .u8 c] w fun e w' => e = .returned (.int .i64 (Lib.indexByte s.data.toList c.toNat.toUInt8)) ∧ w' = w := Any.strings_IndexByte Tryz.lays137 s c w
open Go.RowKit in
theorem Tryz.Builder_String_f (B b : Nat) (l : List UInt8) (w : World) (h : Lib.IsBuilderF 127 5 B b (Lib.byteCells l) w) (h0 : l ≠ []) :
    Calls Tryz.prog 103 #[.pointer (some ⟨b, 0, none⟩)] w fun e w' => e = .returned (.string ⟨l.toArray⟩) ∧ (Lib.IsBuilderF 127 5 B b (Lib.byteCells l) w' ∧ Below B w w') := Any.Builder_String_f Tryz.lays169 Tryz.Builder_Extra_169 B b l w h h0
open Go.RowKit in
theorem Tryz.Builder_String_empty_f (B b : Nat) (w : World) (h : Lib.IsBuilderF 127 5 B b [] w) (hBw : B ≤ w.heap.size) :
    Calls Tryz.prog 103 #[.pointer (some ⟨b, 0, none⟩)] w fun e w' => e = .returned (.string ⟨#[]⟩) ∧ (Lib.IsBuilderF 127 5 B b [] w' ∧ Below B w w') := Any.Builder_String_empty_f Tryz.lays169 Tryz.Builder_Extra_169 B b w h hBw
open Go.RowKit in
theorem Tryz.Builder_String_any_f (B b : Nat) (l : List UInt8) (w : World) (h : Lib.IsBuilderF 127 5 B b (Lib.byteCells l) w) (hBw : B ≤ w.heap.size) :
    Calls Tryz.prog 103 #[.pointer (some ⟨b, 0, none⟩)] w fun e w' => e = .returned (.string ⟨l.toArray⟩) ∧ (Lib.IsBuilderF 127 5 B b (Lib.byteCells l) w' ∧ Below B w w') := Any.Builder_String_any_f Tryz.lays169 Tryz.Builder_Extra_169 B b l w h hBw
open Go.RowKit in
theorem Tryz.Builder_String_k (B b : Nat) (l : List UInt8) (w : World) (h : Lib.IsBuilderF 127 5 B b (Lib.byteCells l) w) (h0 : l ≠ []) :
    Calls Tryz.prog 103 #[.pointer (some ⟨b, 0, none⟩)] w fun e w' => e = .returned (.string ⟨l.toArray⟩) ∧ (Lib.IsBuilderF 127 5 B b (Lib.byteCells l) w' ∧ Below B w w' ∧ Lib.OthersKept 5 (some b) w w') := Any.Builder_String_k Tryz.lays169 Tryz.Builder_Extra_169 B b l w h h0
open Go.RowKit in
theorem Tryz.Builder_String_empty_k (B b : Nat) (w : World) (h : Lib.IsBuilderF 127 5 B b [] w) (hBw : B ≤ w.heap.size) :
    Calls Tryz.prog 103 #[.pointer (some ⟨b, 0, none⟩)] w fun e w' => e = .returned (.string ⟨#[]⟩) ∧ (Lib.IsBuilderF 127 5 B b [] w' ∧ Below B w w' ∧ Lib.OthersKept 5 (some b) w w') := Any.Builder_String_empty_k Tryz.lays169 Tryz.Builder_Extra_169 B b w h hBw
open Go.RowKit in
theorem Tryz.Builder_String_any_k (B b : Nat) (l : List UInt8) (w : World) (h : Lib.IsBuilderF 127 5 B b (Lib.byteCells l) w) (hBw : B ≤ w.heap.size) :
    Calls Tryz.prog 103 #[.pointer (some ⟨b, 0, none⟩)] w fun e w' => e = .returned (.string ⟨l.toArray⟩) ∧ (Lib.IsBuilderF 127 5 B b (Lib.byteCells l) w' ∧ Below B w w' ∧ Lib.OthersKept 5 (some b) w w') := Any.Builder_String_any_k Tryz.lays169 Tryz.Builder_Extra_169 B b l w h hBw
def Tryz.lays217_ren : Go.Shelf.Ren := ⟨fun | 217 => 117 | 266 => 118 | n => n, fun | 9 => 9 | 5 => 5 | 3 => 3 | n => n, fun | n => n⟩
theorem Tryz.lays217 : Go.Proofs.Lays.n217 Tryz.prog Tryz.lays217_ren := {
  mixed := by kernel_rfl
  f217 := Tryz.func117.trans (congrArg some (by kernel_rfl))
  f266 := Tryz.func118.trans (congrArg some (by kernel_rfl))
  t3 := Tryz.underlying3
  a3 := Tryz.isAgg3
  z3 := Tryz.sizeOf3
  v3 := Tryz.zeroValue3
  t5 := Tryz.underlying5
  a5 := Tryz.isAgg5
  z5 := Tryz.sizeOf5
  v5 := Tryz.zeroValue5
  t9 := Tryz.underlying9
  a9 := Tryz.isAgg9
  z9 := Tryz.sizeOf9
  v9 := Tryz.zeroValue9 }
open Go.RowKit Go.Lib in
theorem Tryz.stringslite_IndexByte (s : ByteArray) (c : Int) (w : World) :
    Calls Tryz.prog 117 #[.string s, .int .u8 c] w fun e w' => e = .returned (.int .i64 (Lib.indexByte s.data.toList c.toNat.toUInt8)) ∧ w' = w := Any.stringslite_IndexByte Tryz.lays217 s c w
def Tryz.lays224_ren : Go.Shelf.Ren := ⟨fun | 224 => 114 | n => n, fun | 3 => 3 | n => n, fun | n => n⟩
theorem Tryz.lays224 : Go.Proofs.Lays.n224 Tryz.prog Tryz.lays224_ren := {
  mixed := by kernel_rfl
  f224 := Tryz.func114.trans (congrArg some (by kernel_rfl))
  t3 := Tryz.underlying3
  a3 := Tryz.isAgg3
  z3 := Tryz.sizeOf3
  v3 := Tryz.zeroValue3 }
open Go.RowKit Go.Lib in
theorem Tryz.bytealg_Cutover (n : Int) (h0 : 0 ≤ n) (h1 : n < 4611686018427387904) (w : World) :
    Calls Tryz.prog 114 #[.int .i64 n] w fun e w' => e = .returned (.int .i64 ((n + 16) / 8)) ∧ w' = w := Any.bytealg_Cutover Tryz.lays224 n h0 h1 w
def Tryz.lays206_ren : Go.Shelf.Ren := ⟨fun | 206 => 92 | n => n, fun | 9 => 9 | 4 => 4 | 3 => 3 | n => n, fun | n => n⟩
theorem Tryz.lays206 : Go.Proofs.Lays.n206 Tryz.prog Tryz.lays206_ren := {
  mixed := by kernel_rfl
  f206 := Tryz.func92.trans (congrArg some (by kernel_rfl))
  t3 := Tryz.underlying3
  a3 := Tryz.isAgg3
  z3 := Tryz.sizeOf3
  v3 := Tryz.zeroValue3
  t4 := Tryz.underlying4
  a4 := Tryz.isAgg4
  z4 := Tryz.sizeOf4
  v4 := Tryz.zeroValue4
  t9 := Tryz.underlying9
  a9 := Tryz.isAgg9
  z9 := Tryz.sizeOf9
  v9 := Tryz.zeroValue9 }
open Go.RowKit Go.Lib in
theorem Tryz.stringslite_HasPrefix (s p : ByteArray) (w : World) :
    Calls Tryz.prog 92 #[.string s, .string p] w fun e w' => e = .returned (.bool (Lib.hasPrefix s.data.toList p.data.toList)) ∧ w' = w := Any.stringslite_HasPrefix Tryz.lays206 s p w
def Tryz.lays99_ren : Go.Shelf.Ren := ⟨fun | 99 => 78 | 206 => 92 | n => n, fun | 9 => 9 | 4 => 4 | 3 => 3 | n => n, fun | n => n⟩
theorem Tryz.lays99 : Go.Proofs.Lays.n99 Tryz.prog Tryz.lays99_ren := {
  mixed := by kernel_rfl
  f99 := Tryz.func78.trans (congrArg some (by kernel_rfl))
  f206 := Tryz.func92.trans (congrArg some (by kernel_rfl))
  t3 := Tryz.underlying3
  a3 := Tryz.isAgg3
  z3 := Tryz.sizeOf3
  v3 := Tryz.zeroValue3
  t4 := Tryz.underlying4
  a4 := Tryz.isAgg4
  z4 := Tryz.sizeOf4
  v4 := Tryz.zeroValue4
  t9 := Tryz.underlying9
  a9 := Tryz.isAgg9
  z9 := Tryz.sizeOf9
  v9 := Tryz.zeroValue9 }
open Go.RowKit Go.Lib in
theorem Tryz.strings_HasPrefix (s p : ByteArray) (w : World) :
    Calls Tryz.prog 78 #[.string s, .string p] w fun e w' => e = .returned (.bool (Lib.hasPrefix s.data.toList p.data.toList)) ∧ w' = w := Any.strings_HasPrefix Tryz.lays99 s p w
def Tryz.lays197_ren : Go.Shelf.Ren := ⟨fun | 197 => 101 | 260 => 109 | n => n, fun | 9 => 9 | 21 => 21 | 3 => 3 | 4 => 4 | 5 => 5 | 105 => 122 | 119 => 136 | 0 => 0 | 46 => 137 | 139 => 140 | 138 => 139 | n => n, fun | 3 => 0 | 4 => 1 | n => n⟩
theorem Tryz.lays197 : Go.Proofs.Lays.n197 Tryz.prog Tryz.lays197_ren := {
  mixed := by kernel_rfl
  f197 := Tryz.func101.trans (congrArg some (by kernel_rfl))
  f260 := Tryz.func109.trans (congrArg some (by kernel_rfl))
  t0 := Tryz.underlying0
  a0 := Tryz.isAgg0
  z0 := Tryz.sizeOf0
  v0 := Tryz.zeroValue0
  t3 := Tryz.underlying3
  a3 := Tryz.isAgg3
  z3 := Tryz.sizeOf3
  v3 := Tryz.zeroValue3
  t4 := Tryz.underlying4
  a4 := Tryz.isAgg4
  z4 := Tryz.sizeOf4
  v4 := Tryz.zeroValue4
  t5 := Tryz.underlying5
  a5 := Tryz.isAgg5
  z5 := Tryz.sizeOf5
  v5 := Tryz.zeroValue5
  t9 := Tryz.underlying9
  a9 := Tryz.isAgg9
  z9 := Tryz.sizeOf9
  v9 := Tryz.zeroValue9
  t21 := Tryz.underlying21
  a21 := Tryz.isAgg21
  z21 := Tryz.sizeOf21
  v21 := Tryz.zeroValue21
  t46 := Tryz.underlying137
  a46 := Tryz.isAgg137
  z46 := Tryz.sizeOf137
  v46 := Tryz.zeroValue137
  t105 := Tryz.underlying122
  a105 := Tryz.isAgg122
  z105 := Tryz.sizeOf122
  v105 := Tryz.zeroValue122
  t119 := Tryz.underlying136
  a119 := Tryz.isAgg136
  z119 := Tryz.sizeOf136
  t138 := Tryz.underlying139
  a138 := Tryz.isAgg139
  z138 := Tryz.sizeOf139
  v138 := Tryz.zeroValue139
  t139 := Tryz.underlying140
  a139 := Tryz.isAgg140
  z139 := Tryz.sizeOf140
  v139 := Tryz.zeroValue140
  g3 := by kernel_rfl
  g4 := by kernel_rfl }
open Go.RowKit Go.Lib in
theorem Tryz.utf8_DecodeRuneInString_ascii (s : ByteArray) (x : UInt8) (w : World) (h0 : s.data.toList[0]? = some x) (hx : x.toNat < 128) :
    Calls Tryz.prog 101 #[.string s] w fun e w' => e = .returned (.tuple #[.int .i32 x.toNat, .int .i64 1]) ∧ w' = w := Any.utf8_DecodeRuneInString_ascii Tryz.lays197 s x w h0 hx
def Tryz.lays152_ren : Go.Shelf.Ren := ⟨fun | 152 => 110 | 137 => 112 | 119 => 113 | 224 => 114 | 225 => 115 | 217 => 117 | 266 => 118 | n => n, fun | 9 => 9 | 21 => 21 | 3 => 3 | 4 => 4 | 5 => 5 | 0 => 0 | 46 => 137 | n => n, fun | n => n⟩
theorem Tryz.lays152 : Go.Proofs.Lays.n152 Tryz.prog Tryz.lays152_ren := {
  mixed := by kernel_rfl
  f119 := Tryz.func113.trans (congrArg some (by kernel_rfl))
  f137 := Tryz.func112.trans (congrArg some (by kernel_rfl))
  f152 := Tryz.func110.trans (congrArg some (by kernel_rfl))
  f217 := Tryz.func117.trans (congrArg some (by kernel_rfl))
  f224 := Tryz.func114.trans (congrArg some (by kernel_rfl))
  f225 := Tryz.func115.trans (congrArg some (by kernel_rfl))
  f266 := Tryz.func118.trans (congrArg some (by kernel_rfl))
  t0 := Tryz.underlying0
  a0 := Tryz.isAgg0
  z0 := Tryz.sizeOf0
  v0 := Tryz.zeroValue0
  t3 := Tryz.underlying3
  a3 := Tryz.isAgg3
  z3 := Tryz.sizeOf3
  v3 := Tryz.zeroValue3
  t4 := Tryz.underlying4
  a4 := Tryz.isAgg4
  z4 := Tryz.sizeOf4
  v4 := Tryz.zeroValue4
  t5 := Tryz.underlying5
  a5 := Tryz.isAgg5
  z5 := Tryz.sizeOf5
  v5 := Tryz.zeroValue5
  t9 := Tryz.underlying9
  a9 := Tryz.isAgg9
  z9 := Tryz.sizeOf9
  v9 := Tryz.zeroValue9
  t21 := Tryz.underlying21
  a21 := Tryz.isAgg21
  z21 := Tryz.sizeOf21
  v21 := Tryz.zeroValue21
  t46 := Tryz.underlying137
  a46 := Tryz.isAgg137
  z46 := Tryz.sizeOf137
  v46 := Tryz.zeroValue137 }
open Go.RowKit Go.Lib in
theorem Tryz.strings_IndexRune_ascii (s : ByteArray) (r : Int) (w : World) (h0 : 0 ≤ r) (h1 : r < 128) :
    Calls Tryz.prog 110 #[.string s, .int .i32 r] w fun e w' => e = .returned (.int .i64 (Lib.indexByte s.data.toList r.toNat.toUInt8)) ∧ w' = w := Any.strings_IndexRune_ascii Tryz.lays152 s r w h0 h1
def Tryz.lays151_ren : Go.Shelf.Ren := ⟨fun | 151 => 102 | 152 => 110 | 137 => 112 | 119 => 113 | 224 => 114 | 225 => 115 | 217 => 117 | 266 => 118 | n => n, fun | 9 => 9 | 21 => 21 | 4 => 4 | 3 => 3 | 5 => 5 | 0 => 0 | 46 => 137 | n => n, fun | n => n⟩
theorem Tryz.lays151 : Go.Proofs.Lays.n151 Tryz.prog Tryz.lays151_ren := {
  mixed := by kernel_rfl
  f119 := Tryz.func113.trans (congrArg some (by kernel_rfl))
  f137 := Tryz.func112.trans (congrArg some (by kernel_rfl))
  f151 := Tryz.func102.trans (congrArg some (by kernel_rfl))
  f152 := Tryz.func110.trans (congrArg some (by kernel_rfl))
  f217 := Tryz.func117.trans (congrArg some (by kernel_rfl))
  f224 := Tryz.func114.trans (congrArg some (by kernel_rfl))
  f225 := Tryz.func115.trans (congrArg some (by kernel_rfl))
  f266 := Tryz.func118.trans (congrArg some (by kernel_rfl))
  t0 := Tryz.underlying0
  a0 := Tryz.isAgg0
  z0 := Tryz.sizeOf0
  v0 := Tryz.zeroValue0
  t3 := Tryz.underlying3
  a3 := Tryz.isAgg3
  z3 := Tryz.sizeOf3
  v3 := Tryz.zeroValue3
  t4 := Tryz.underlying4
  a4 := Tryz.isAgg4
  z4 := Tryz.sizeOf4
  v4 := Tryz.zeroValue4
  t5 := Tryz.underlying5
  a5 := Tryz.isAgg5
  z5 := Tryz.sizeOf5
  v5 := Tryz.zeroValue5
  t9 := Tryz.underlying9
  a9 := Tryz.isAgg9
  z9 := Tryz.sizeOf9
  v9 := Tryz.zeroValue9
  t21 := Tryz.underlying21
  a21 := Tryz.isAgg21
  z21 := Tryz.sizeOf21
  v21 := Tryz.zeroValue21
  t46 := Tryz.underlying137
  a46 := Tryz.isAgg137
  z46 := Tryz.sizeOf137
  v46 := Tryz.zeroValue137 }
open Go.RowKit Go.Lib in
theorem Tryz.strings_ContainsRune_ascii (s : ByteArray) (r : Int) (w : World) (h0 : 0 ≤ r) (h1 : r < 128) :
    Calls Tryz.prog 102 #[.string s, .int .i32 r] w fun e w' => e = .returned (.bool (decide (0 ≤ Lib.indexByte s.data.toList r.toNat.toUInt8))) ∧ w' = w := Any.strings_ContainsRune_ascii Tryz.lays151 s r w h0 h1
def Tryz.lays227_ren : Go.Shelf.Ren := ⟨fun | 227 => 88 | n => n, fun | 9 => 9 | 116 => 110 | 4 => 4 | 0 => 0 | 3 => 3 | 5 => 5 | n => n, fun | n => n⟩
theorem Tryz.lays227 : Go.Proofs.Lays.n227 Tryz.prog Tryz.lays227_ren := {
  mixed := by kernel_rfl
  f227 := Tryz.func88.trans (congrArg some (by kernel_rfl))
  t0 := Tryz.underlying0
  a0 := Tryz.isAgg0
  z0 := Tryz.sizeOf0
  v0 := Tryz.zeroValue0
  t3 := Tryz.underlying3
  a3 := Tryz.isAgg3
  z3 := Tryz.sizeOf3
  v3 := Tryz.zeroValue3
  t4 := Tryz.underlying4
  a4 := Tryz.isAgg4
  z4 := Tryz.sizeOf4
  v4 := Tryz.zeroValue4
  t5 := Tryz.underlying5
  a5 := Tryz.isAgg5
  z5 := Tryz.sizeOf5
  v5 := Tryz.zeroValue5
  t9 := Tryz.underlying9
  a9 := Tryz.isAgg9
  z9 := Tryz.sizeOf9
  v9 := Tryz.zeroValue9
  t116 := Tryz.underlying110
  a116 := Tryz.isAgg110
  z116 := Tryz.sizeOf110 }
open Go.RowKit Go.Lib in
theorem Tryz.strings_makeASCIISet (hv116 : ∀ w, (zeroValue 110).run Tryz.prog w = .ok (.agg (Array.replicate 256 (.bool false))) w) (chars : ByteArray) (w : World) (hs : chars.size < 4294967281) (hascii : ∀ (j : Nat) b, chars.data.toList[j]? = some b → b.toNat < 128) :
    Calls Tryz.prog 88 #[.string chars] w fun e w' => e = .returned (.tuple #[.agg (Lib.setCells chars.data.toList), .bool true]) ∧ w' = w.alloc (.cells (Lib.setCells chars.data.toList) 110) := Any.strings_makeASCIISet Tryz.lays227 hv116 (by kernel_rfl) chars w hs hascii
def Tryz.lays228_ren : Go.Shelf.Ren := ⟨fun | 228 => 100 | n => n, fun | 124 => 114 | 5 => 5 | 4 => 4 | 0 => 0 | 116 => 110 | n => n, fun | n => n⟩
theorem Tryz.lays228 : Go.Proofs.Lays.n228 Tryz.prog Tryz.lays228_ren := {
  mixed := by kernel_rfl
  f228 := Tryz.func100.trans (congrArg some (by kernel_rfl))
  t0 := Tryz.underlying0
  a0 := Tryz.isAgg0
  z0 := Tryz.sizeOf0
  v0 := Tryz.zeroValue0
  t4 := Tryz.underlying4
  a4 := Tryz.isAgg4
  z4 := Tryz.sizeOf4
  v4 := Tryz.zeroValue4
  t5 := Tryz.underlying5
  a5 := Tryz.isAgg5
  z5 := Tryz.sizeOf5
  v5 := Tryz.zeroValue5
  t116 := Tryz.underlying110
  a116 := Tryz.isAgg110
  z116 := Tryz.sizeOf110
  t124 := Tryz.underlying114
  a124 := Tryz.isAgg114
  z124 := Tryz.sizeOf114
  v124 := Tryz.zeroValue114 }
open Go.RowKit Go.Lib in
theorem Tryz.asciiSet_contains (b : Nat) (x : UInt8) (v : Bool) (w : World) (hc : w.cell? ⟨b, x.toNat, none⟩ = some (.bool v)) :
    Calls Tryz.prog 100 #[.pointer (some ⟨b, 0, none⟩), .int .u8 x.toNat] w fun e w' => e = .returned (.bool v) ∧ w' = w := Any.asciiSet_contains Tryz.lays228 b x v w hc
def Tryz.lays260_ren : Go.Shelf.Ren := ⟨fun | 260 => 109 | n => n, fun | 9 => 9 | 21 => 21 | 3 => 3 | 4 => 4 | 5 => 5 | 119 => 136 | 0 => 0 | 46 => 137 | 139 => 140 | 138 => 139 | n => n, fun | 3 => 0 | 4 => 1 | n => n⟩
theorem Tryz.lays260 : Go.Proofs.Lays.n260 Tryz.prog Tryz.lays260_ren := {
  mixed := by kernel_rfl
  f260 := Tryz.func109.trans (congrArg some (by kernel_rfl))
  t0 := Tryz.underlying0
  a0 := Tryz.isAgg0
  z0 := Tryz.sizeOf0
  v0 := Tryz.zeroValue0
  t3 := Tryz.underlying3
  a3 := Tryz.isAgg3
  z3 := Tryz.sizeOf3
  v3 := Tryz.zeroValue3
  t4 := Tryz.underlying4
  a4 := Tryz.isAgg4
  z4 := Tryz.sizeOf4
  v4 := Tryz.zeroValue4
  t5 := Tryz.underlying5
  a5 := Tryz.isAgg5
  z5 := Tryz.sizeOf5
  v5 := Tryz.zeroValue5
  t9 := Tryz.underlying9
  a9 := Tryz.isAgg9
  z9 := Tryz.sizeOf9
  v9 := Tryz.zeroValue9
  t21 := Tryz.underlying21
  a21 := Tryz.isAgg21
  z21 := Tryz.sizeOf21
  v21 := Tryz.zeroValue21
  t46 := Tryz.underlying137
  a46 := Tryz.isAgg137
  z46 := Tryz.sizeOf137
  v46 := Tryz.zeroValue137
  t119 := Tryz.underlying136
  a119 := Tryz.isAgg136
  z119 := Tryz.sizeOf136
  t138 := Tryz.underlying139
  a138 := Tryz.isAgg139
  z138 := Tryz.sizeOf139
  v138 := Tryz.zeroValue139
  t139 := Tryz.underlying140
  a139 := Tryz.isAgg140
  z139 := Tryz.sizeOf140
  v139 := Tryz.zeroValue140
  g3 := by kernel_rfl
  g4 := by kernel_rfl }
open Go.RowKit Go.Lib in
theorem Tryz.utf8_decodeRuneInStringSlow (s : ByteArray) (w : World) (hT : Lib.Utf8Tabs 0 1 w) :
    Calls Tryz.prog 109 #[.string s] w fun e w' => e = .returned (.tuple #[.int .i32 (Lib.decodeGo s).1, .int .i64 (Lib.decodeGo s).2]) ∧ Below w.heap.size w w' := Any.utf8_decodeRuneInStringSlow Tryz.lays260 s w hT
open Go.RowKit Go.Lib in
theorem Tryz.utf8_DecodeRuneInString (s : ByteArray) (w : World) (hT : Lib.Utf8Tabs 0 1 w) :
    Calls Tryz.prog 101 #[.string s] w fun e w' => e = .returned (.tuple #[.int .i32 (Lib.decodeGo s).1, .int .i64 (Lib.decodeGo s).2]) ∧ Below w.heap.size w w' := Any.utf8_DecodeRuneInString Tryz.lays197 s w hT
end Go.Proofs
namespace Go.Proofs.YthlakehilhpojaaGreatDoor
open Go.RowKit
def fm_number : Fm := (.call (.c true) false 67 [(.one (.pt 0)), (.one (.c (.fn 42)))] (.p (.one (.i .i64 (.x 4)))) ⟨1, 0, 0, 0, 0, 0⟩
  (.load (.c true) (.pt 0 0) 1 [(.s (.x 1))] ⟨0, 0, 1, 0, 0, 0⟩
  (.load (.c true) (.pt 0 1) 1 [(.i .i64 (.x 5))] ⟨1, 0, 0, 0, 0, 0⟩
  (.load (.c true) (.pt 0 1) 1 [(.i .i64 (.x 6))] ⟨1, 0, 0, 0, 0, 0⟩
  (.need (.c true) (.nnp 0)
  (.need (.c true) (.nnp 0)
  (.need (.c true) (.nnp 0)
  (.need (.c true) (.nnp 0)
  (.need (.c true) (.nnp 0)
  (.need (.c true) (.nnp 0)
  (.need (.c true) (.and (.le (.c (-9223372036854775808)) (.add (.x 6) (.x 4))) (.le (.add (.x 6) (.x 4)) (.c 9223372036854775807)))
  (.need (.c true) (.and (.and (.le (.c 0) (.add (.x 6) (.x 4))) (.le (.add (.x 6) (.x 4)) (.len (.x 1)))) (.and (.le (.c 0) (.x 5)) (.le (.x 5) (.add (.x 6) (.x 4)))))
  (.load (.c true) (.pt 0 1) 1 [(.i .i64 (.x 7))] ⟨1, 0, 0, 0, 0, 0⟩
  (.load (.c true) (.pt 0 0) 1 [(.s (.x 2))] ⟨0, 0, 1, 0, 0, 0⟩
  (.load (.lt (.add (.x 7) (.x 4)) (.len (.x 2))) (.pt 0 0) 1 [(.s (.x 3))] ⟨0, 0, 1, 0, 0, 0⟩
  (.load (.lt (.add (.x 7) (.x 4)) (.len (.x 2))) (.pt 0 1) 1 [(.i .i64 (.x 8))] ⟨1, 0, 0, 0, 0, 0⟩
  (.need (.c true) (.nnp 0)
  (.need (.c true) (.nnp 0)
  (.need (.c true) (.and (.le (.c (-9223372036854775808)) (.add (.x 7) (.x 4))) (.le (.add (.x 7) (.x 4)) (.c 9223372036854775807)))
  (.need (.c true) (.nnp 0)
  (.need (.c true) (.nnp 0)
  (.need (.lt (.add (.x 7) (.x 4)) (.len (.x 2))) (.nnp 0)
  (.need (.lt (.add (.x 7) (.x 4)) (.len (.x 2))) (.nnp 0)
  (.need (.lt (.add (.x 7) (.x 4)) (.len (.x 2))) (.nnp 0)
  (.need (.lt (.add (.x 7) (.x 4)) (.len (.x 2))) (.nnp 0)
  (.need (.lt (.add (.x 7) (.x 4)) (.len (.x 2))) (.and (.le (.c (-9223372036854775808)) (.add (.x 8) (.x 4))) (.le (.add (.x 8) (.x 4)) (.c 9223372036854775807)))
  (.need (.lt (.add (.x 7) (.x 4)) (.len (.x 2))) (.and (.le (.c 0) (.add (.x 8) (.x 4))) (.lt (.add (.x 8) (.x 4)) (.len (.x 3))))
  (.ite (.and (.lt (.add (.x 7) (.x 4)) (.len (.x 2))) (.eqI (.at (.x 3) (.add (.x 8) (.x 4))) (.c 105)))
  (.need (.c true) (.and (.le (.c (-9223372036854775808)) (.add (.x 4) (.c 1))) (.le (.add (.x 4) (.c 1)) (.c 9223372036854775807)))
  (.load (.c true) (.pt 0 1) 1 [(.i .i64 (.x 9))] ⟨1, 0, 0, 0, 0, 0⟩
  (.load (.c true) (.pt 0 0) 1 [(.s (.x 4))] ⟨0, 0, 1, 0, 0, 0⟩
  (.load (.lt (.add (.x 9) (.add (.x 4) (.c 1))) (.len (.x 4))) (.pt 0 0) 1 [(.s (.x 5))] ⟨0, 0, 1, 0, 0, 0⟩
  (.load (.lt (.add (.x 9) (.add (.x 4) (.c 1))) (.len (.x 4))) (.pt 0 1) 1 [(.i .i64 (.x 10))] ⟨1, 0, 0, 0, 0, 0⟩
  (.need (.c true) (.nnp 0)
  (.need (.c true) (.nnp 0)
  (.need (.c true) (.and (.le (.c (-9223372036854775808)) (.add (.x 9) (.add (.x 4) (.c 1)))) (.le (.add (.x 9) (.add (.x 4) (.c 1))) (.c 9223372036854775807)))
  (.need (.c true) (.nnp 0)
  (.need (.c true) (.nnp 0)
  (.need (.lt (.add (.x 9) (.add (.x 4) (.c 1))) (.len (.x 4))) (.nnp 0)
  (.need (.lt (.add (.x 9) (.add (.x 4) (.c 1))) (.len (.x 4))) (.nnp 0)
  (.need (.lt (.add (.x 9) (.add (.x 4) (.c 1))) (.len (.x 4))) (.nnp 0)
  (.need (.lt (.add (.x 9) (.add (.x 4) (.c 1))) (.len (.x 4))) (.nnp 0)
  (.need (.lt (.add (.x 9) (.add (.x 4) (.c 1))) (.len (.x 4))) (.and (.le (.c (-9223372036854775808)) (.add (.x 10) (.add (.x 4) (.c 1)))) (.le (.add (.x 10) (.add (.x 4) (.c 1))) (.c 9223372036854775807)))
  (.need (.lt (.add (.x 9) (.add (.x 4) (.c 1))) (.len (.x 4))) (.and (.le (.c 0) (.add (.x 10) (.add (.x 4) (.c 1)))) (.lt (.add (.x 10) (.add (.x 4) (.c 1))) (.len (.x 5))))
  (.call (.lt (.add (.x 9) (.add (.x 4) (.c 1))) (.len (.x 4))) false 69 [(.one (.i .u8 (.at (.x 5) (.add (.x 10) (.add (.x 4) (.c 1))))))] (.p (.one (.b (.x 0)))) ⟨0, 1, 0, 0, 0, 0⟩
  (.ite (.and (.lt (.add (.x 9) (.add (.x 4) (.c 1))) (.len (.x 4))) (.x 0))
  (.ret (.tup [(.agg [(.i .u8 (.c 0)), (.i .i64 (.c 0)), (.i .i64 (.c 0)), (.i .i64 (.c 0)), (.s (.c []))]), (.one (.i .i64 (.c 4)))]))
  (.call (.c true) false 71 [(.one (.s (.sub (.x 1) (.x 5) (.add (.x 6) (.x 4))))), (.one (.s (.c [48])))] (.p (.one (.s (.x 6)))) ⟨0, 0, 1, 0, 0, 0⟩
  (.ite (.eqS (.x 6) (.c []))
  (.call (.c true) false 72 [(.one (.s (.c [48])))] (.tup [(.one (.i .i64 (.x 11))), (.one (.i .i64 (.x 12)))]) ⟨2, 0, 0, 0, 0, 0⟩
  (.ite (.or (.not (.eqI (.x 12) (.c 0))) (.lt (.c 8388607) (.x 11)))
  (.ret (.tup [(.agg [(.i .u8 (.c 0)), (.i .i64 (.c 0)), (.i .i64 (.c 0)), (.i .i64 (.c 0)), (.s (.c []))]), (.one (.i .i64 (.c 14)))]))
  (.call (.c true) false 66 [(.one (.pt 0)), (.one (.i .i64 (.add (.x 4) (.c 1))))] (.tup []) ⟨0, 0, 0, 0, 0, 0⟩
  (.ret (.tup [(.agg [(.i .u8 (.c 4)), (.i .i64 (.x 1)), (.i .i64 (.x 2)), (.i .i64 (.x 11)), (.s (.x 0))]), (.one (.i .i64 (.c 0)))])))))
  (.call (.c true) false 72 [(.one (.s (.x 6)))] (.tup [(.one (.i .i64 (.x 11))), (.one (.i .i64 (.x 12)))]) ⟨2, 0, 0, 0, 0, 0⟩
  (.ite (.or (.not (.eqI (.x 12) (.c 0))) (.lt (.c 8388607) (.x 11)))
  (.ret (.tup [(.agg [(.i .u8 (.c 0)), (.i .i64 (.c 0)), (.i .i64 (.c 0)), (.i .i64 (.c 0)), (.s (.c []))]), (.one (.i .i64 (.c 14)))]))
  (.call (.c true) false 66 [(.one (.pt 0)), (.one (.i .i64 (.add (.x 4) (.c 1))))] (.tup []) ⟨0, 0, 0, 0, 0, 0⟩
  (.ret (.tup [(.agg [(.i .u8 (.c 4)), (.i .i64 (.x 1)), (.i .i64 (.x 2)), (.i .i64 (.x 11)), (.s (.x 0))]), (.one (.i .i64 (.c 0)))])))))))))))))))))))))))))
  (.load (.c true) (.pt 0 1) 1 [(.i .i64 (.x 9))] ⟨1, 0, 0, 0, 0, 0⟩
  (.load (.c true) (.pt 0 0) 1 [(.s (.x 4))] ⟨0, 0, 1, 0, 0, 0⟩
  (.load (.lt (.add (.x 9) (.x 4)) (.len (.x 4))) (.pt 0 0) 1 [(.s (.x 5))] ⟨0, 0, 1, 0, 0, 0⟩
  (.load (.lt (.add (.x 9) (.x 4)) (.len (.x 4))) (.pt 0 1) 1 [(.i .i64 (.x 10))] ⟨1, 0, 0, 0, 0, 0⟩
  (.need (.c true) (.nnp 0)
  (.need (.c true) (.nnp 0)
  (.need (.c true) (.and (.le (.c (-9223372036854775808)) (.add (.x 9) (.x 4))) (.le (.add (.x 9) (.x 4)) (.c 9223372036854775807)))
  (.need (.c true) (.nnp 0)
  (.need (.c true) (.nnp 0)
  (.need (.lt (.add (.x 9) (.x 4)) (.len (.x 4))) (.nnp 0)
  (.need (.lt (.add (.x 9) (.x 4)) (.len (.x 4))) (.nnp 0)
  (.need (.lt (.add (.x 9) (.x 4)) (.len (.x 4))) (.nnp 0)
  (.need (.lt (.add (.x 9) (.x 4)) (.len (.x 4))) (.nnp 0)
  (.need (.lt (.add (.x 9) (.x 4)) (.len (.x 4))) (.and (.le (.c (-9223372036854775808)) (.add (.x 10) (.x 4))) (.le (.add (.x 10) (.x 4)) (.c 9223372036854775807)))
  (.need (.lt (.add (.x 9) (.x 4)) (.len (.x 4))) (.and (.le (.c 0) (.add (.x 10) (.x 4))) (.lt (.add (.x 10) (.x 4)) (.len (.x 5))))
  (.call (.lt (.add (.x 9) (.x 4)) (.len (.x 4))) false 69 [(.one (.i .u8 (.at (.x 5) (.add (.x 10) (.x 4)))))] (.p (.one (.b (.x 0)))) ⟨0, 1, 0, 0, 0, 0⟩
  (.ite (.and (.lt (.add (.x 9) (.x 4)) (.len (.x 4))) (.x 0))
  (.ret (.tup [(.agg [(.i .u8 (.c 0)), (.i .i64 (.c 0)), (.i .i64 (.c 0)), (.i .i64 (.c 0)), (.s (.c []))]), (.one (.i .i64 (.c 4)))]))
  (.call (.c true) false 71 [(.one (.s (.sub (.x 1) (.x 5) (.add (.x 6) (.x 4))))), (.one (.s (.c [48])))] (.p (.one (.s (.x 6)))) ⟨0, 0, 1, 0, 0, 0⟩
  (.ite (.eqS (.x 6) (.c []))
  (.call (.c true) false 72 [(.one (.s (.c [48])))] (.tup [(.one (.i .i64 (.x 11))), (.one (.i .i64 (.x 12)))]) ⟨2, 0, 0, 0, 0, 0⟩
  (.ite (.or (.not (.eqI (.x 12) (.c 0))) (.lt (.c 9223372036854775807) (.x 11)))
  (.ret (.tup [(.agg [(.i .u8 (.c 0)), (.i .i64 (.c 0)), (.i .i64 (.c 0)), (.i .i64 (.c 0)), (.s (.c []))]), (.one (.i .i64 (.c 14)))]))
  (.call (.c true) false 66 [(.one (.pt 0)), (.one (.i .i64 (.x 4)))] (.tup []) ⟨0, 0, 0, 0, 0, 0⟩
  (.ret (.tup [(.agg [(.i .u8 (.c 3)), (.i .i64 (.x 1)), (.i .i64 (.x 2)), (.i .i64 (.x 11)), (.s (.x 0))]), (.one (.i .i64 (.c 0)))])))))
  (.call (.c true) false 72 [(.one (.s (.x 6)))] (.tup [(.one (.i .i64 (.x 11))), (.one (.i .i64 (.x 12)))]) ⟨2, 0, 0, 0, 0, 0⟩
  (.ite (.or (.not (.eqI (.x 12) (.c 0))) (.lt (.c 9223372036854775807) (.x 11)))
  (.ret (.tup [(.agg [(.i .u8 (.c 0)), (.i .i64 (.c 0)), (.i .i64 (.c 0)), (.i .i64 (.c 0)), (.s (.c []))]), (.one (.i .i64 (.c 14)))]))
  (.call (.c true) false 66 [(.one (.pt 0)), (.one (.i .i64 (.x 4)))] (.tup []) ⟨0, 0, 0, 0, 0, 0⟩
  (.ret (.tup [(.agg [(.i .u8 (.c 3)), (.i .i64 (.x 1)), (.i .i64 (.x 2)), (.i .i64 (.x 11)), (.s (.x 0))]), (.one (.i .i64 (.c 0)))]))))))))))))))))))))))))))))))))))))))))))))))))))))
theorem gen_number : genFn ⟨true, []⟩ Tryz.prog (fun l => ([] : List LAnn).getD l ⟨[], [], []⟩) Tryz.f43 = fm_number := by kernel_rfl
theorem ps_number : freshPs Tryz.prog .zero Tryz.f43.params.toList = some ([(.one (.pt 0)), (.agg [(.i .u8 (.x 0)), (.i .i64 (.x 1)), (.i .i64 (.x 2)), (.i .i64 (.x 3)), (.s (.x 0))])], ⟨4, 0, 1, 0, 0, 1⟩) := by kernel_rfl
def fm_rnumber : Fm := (.loop 0 ⟨[(.x 0)], [], [], [], [], []⟩
  (.need (.lt (.x 1) (.len (.x 0))) (.and (.le (.c 0) (.x 1)) (.lt (.x 1) (.len (.x 0))))
  (.call (.lt (.x 1) (.len (.x 0))) false 50 [(.one (.i .u8 (.at (.x 0) (.x 1))))] (.p (.one (.i .i64 (.x 2)))) ⟨1, 0, 0, 0, 0, 0⟩
  (.ite (.and (.lt (.x 1) (.len (.x 0))) (.eqI (.x 2) (.c 3)))
  (.need (.c true) (.and (.le (.c (-9223372036854775808)) (.add (.x 1) (.c 1))) (.le (.add (.x 1) (.c 1)) (.c 9223372036854775807)))
  (.again 0 ⟨1, 0, 1, 0, 0, 0⟩ ⟨2, 0, 1, 0, 0, 0⟩ ⟨[(.add (.x 1) (.c 1))], [], [], [], [], []⟩))
  (.call (.c true) false 51 [(.one (.s (.x 0))), (.one (.i .i64 (.x 1)))] (.p (.one (.i .i64 (.x 3)))) ⟨1, 0, 0, 0, 0, 0⟩
  (.need (.c true) (.and (.le (.c (-9223372036854775808)) (.add (.x 1) (.c 1))) (.le (.add (.x 1) (.c 1)) (.c 9223372036854775807)))
  (.need (.eqI (.x 3) (.add (.x 1) (.c 1))) (.and (.le (.c 0) (.x 1)) (.lt (.x 1) (.len (.x 0))))
  (.ite (.and (.eqI (.x 3) (.add (.x 1) (.c 1))) (.eqI (.at (.x 0) (.x 1)) (.c 105)))
  (.loop 1 ⟨[(.x 0)], [], [], [], [], []⟩
  (.need (.c true) (.and (.le (.c (-9223372036854775808)) (.sub (.x 1) (.c 1))) (.le (.sub (.x 1) (.c 1)) (.c 9223372036854775807)))
  (.need (.lt (.x 4) (.sub (.x 1) (.c 1))) (.and (.le (.c 0) (.x 4)) (.lt (.x 4) (.len (.x 0))))
  (.ite (.and (.lt (.x 4) (.sub (.x 1) (.c 1))) (.eqI (.at (.x 0) (.x 4)) (.c 48)))
  (.need (.c true) (.and (.le (.c (-9223372036854775808)) (.add (.x 4) (.c 1))) (.le (.add (.x 4) (.c 1)) (.c 9223372036854775807)))
  (.again 1 ⟨4, 0, 1, 0, 0, 0⟩ ⟨5, 0, 1, 0, 0, 0⟩ ⟨[(.add (.x 4) (.c 1))], [], [], [], [], []⟩))
  (.need (.c true) (.and (.and (.le (.c 0) (.x 1)) (.le (.x 1) (.len (.x 0)))) (.and (.le (.c 0) (.x 4)) (.le (.x 4) (.x 1))))
  (.call (.c true) false 81 [(.one (.s (.sub (.x 0) (.x 4) (.x 1))))] (.tup [(.one (.i .i64 (.x 5))), (.one (.i .i64 (.x 6)))]) ⟨2, 0, 0, 0, 0, 0⟩
  (.ite (.or (.not (.eqI (.x 6) (.c 0))) (.lt (.c 8388607) (.x 5)))
  (.ret (.tup [(.agg [(.i .u8 (.c 4)), (.i .i64 (.c 0)), (.i .i64 (.c 0)), (.i .i64 (.c 0)), (.s (.c []))]), (.one (.i .i64 (.c 0))), (.one (.i .i64 (.c 14)))]))
  (.ret (.tup [(.agg [(.i .u8 (.c 4)), (.i .i64 (.c 0)), (.i .i64 (.c 0)), (.i .i64 (.x 5)), (.s (.c []))]), (.one (.i .i64 (.x 3))), (.one (.i .i64 (.c 0)))])))))))))
  (.ite (.not (.eqI (.x 3) (.x 1)))
  (.ret (.tup [(.agg [(.i .u8 (.c 3)), (.i .i64 (.c 0)), (.i .i64 (.c 0)), (.i .i64 (.c 0)), (.s (.c []))]), (.one (.i .i64 (.c 0))), (.one (.i .i64 (.c 4)))]))
  (.loop 1 ⟨[(.x 0)], [], [], [], [], []⟩
  (.need (.c true) (.and (.le (.c (-9223372036854775808)) (.sub (.x 1) (.c 1))) (.le (.sub (.x 1) (.c 1)) (.c 9223372036854775807)))
  (.need (.lt (.x 4) (.sub (.x 1) (.c 1))) (.and (.le (.c 0) (.x 4)) (.lt (.x 4) (.len (.x 0))))
  (.ite (.and (.lt (.x 4) (.sub (.x 1) (.c 1))) (.eqI (.at (.x 0) (.x 4)) (.c 48)))
  (.need (.c true) (.and (.le (.c (-9223372036854775808)) (.add (.x 4) (.c 1))) (.le (.add (.x 4) (.c 1)) (.c 9223372036854775807)))
  (.again 1 ⟨4, 0, 1, 0, 0, 0⟩ ⟨5, 0, 1, 0, 0, 0⟩ ⟨[(.add (.x 4) (.c 1))], [], [], [], [], []⟩))
  (.need (.c true) (.and (.and (.le (.c 0) (.x 1)) (.le (.x 1) (.len (.x 0)))) (.and (.le (.c 0) (.x 4)) (.le (.x 4) (.x 1))))
  (.call (.c true) false 81 [(.one (.s (.sub (.x 0) (.x 4) (.x 1))))] (.tup [(.one (.i .i64 (.x 5))), (.one (.i .i64 (.x 6)))]) ⟨2, 0, 0, 0, 0, 0⟩
  (.ite (.or (.not (.eqI (.x 6) (.c 0))) (.lt (.c 9223372036854775807) (.x 5)))
  (.ret (.tup [(.agg [(.i .u8 (.c 3)), (.i .i64 (.c 0)), (.i .i64 (.c 0)), (.i .i64 (.c 0)), (.s (.c []))]), (.one (.i .i64 (.c 0))), (.one (.i .i64 (.c 14)))]))
  (.ret (.tup [(.agg [(.i .u8 (.c 3)), (.i .i64 (.c 0)), (.i .i64 (.c 0)), (.i .i64 (.x 5)), (.s (.c []))]), (.one (.i .i64 (.x 3))), (.one (.i .i64 (.c 0)))]))))))))))))))))))
theorem gen_rnumber : genFn ⟨true, []⟩ Tryz.prog (fun l => ([⟨[7], [14, 15, 16, 17, 18, 19, 20, 21, 22, 23, 24, 25, 26], []⟩, ⟨[1], [46, 47, 48, 49, 50, 51, 52, 53, 54, 55, 56, 57], []⟩] : List LAnn).getD l ⟨[], [], []⟩) Tryz.f53 = fm_rnumber := by kernel_rfl
theorem ps_rnumber : freshPs Tryz.prog .zero Tryz.f53.params.toList = some ([(.one (.s (.x 0))), (.one (.i .i64 (.x 0)))], ⟨1, 0, 1, 0, 0, 0⟩) := by kernel_rfl
/-- Without the zeros ahead. -/
def strip : List UInt8 → List UInt8
  | a :: c :: t => if a.toNat = 48 then strip (c :: t) else a :: c :: t
  | l => l
theorem strip_trim (d : List UInt8) (hne : d ≠ []) : strip d = if Lib.trimLeftB d 48 = [] then [48] else Lib.trimLeftB d 48 := by
  induction d with
  | nil => exact absurd rfl hne
  | cons a t ih =>
    have e48 : (a == 48) = decide (a.toNat = 48) := by
      rw [Bool.eq_iff_iff]; simp
      constructor
      · rintro rfl; rfl
      · intro h; exact UInt8.toNat_inj.1 (by simpa using h)
    cases t with
    | nil =>
      simp only [strip, Lib.trimLeftB, List.dropWhile_cons, List.dropWhile_nil, e48]
      by_cases h : a.toNat = 48
      · have : a = 48 := UInt8.toNat_inj.1 (by simpa using h)
        subst this; simp
      · simp [h]
    | cons c t =>
      simp only [strip]
      by_cases h : a.toNat = 48
      · rw [if_pos h, ih (by simp)]
        have : Lib.trimLeftB (a :: c :: t) 48 = Lib.trimLeftB (c :: t) 48 := by
          simp only [Lib.trimLeftB, List.dropWhile_cons, e48, h, decide_true, if_true]
        rw [this]
      · rw [if_neg h]
        have : Lib.trimLeftB (a :: c :: t) 48 = a :: c :: t := by
          simp only [Lib.trimLeftB, List.dropWhile_cons, e48, h, decide_false]; rfl
        rw [this]; simp
def nfin (k most : Int) (d : List UInt8) (e : Nat) : Int × Int × Int × Nat :=
  if (pv (strip d)).2 = 0 ∧ (pv (strip d)).1 ≤ most then (0, k, (pv (strip d)).1, e) else (14, 0, 0, 0)
/-- A number: the fault, the kind, the number, where it ends. -/
def nm (s : List UInt8) (i : Nat) : Int × Int × Int × Nat :=
  if rn inB s (i + rn dgB s i) = 0 then nfin 3 9223372036854775807 (sub s i (i + rn dgB s i)) (i + rn dgB s i)
  else if rn inB s (i + rn dgB s i) = 1 ∧ bt s (i + rn dgB s i) = 105 then nfin 4 8388607 (sub s i (i + rn dgB s i)) (i + rn dgB s i + 1)
  else (4, 0, 0, 0)
def ctTrimZ : Ct Tryz.prog where
  f := 71
  spec := fun args h φ => ∃ d, args = [.string (B d), .string (B [48])] ∧ φ (.string (B (Lib.trimLeftB d 48))) h
  ok := by
    rintro args h φ w ⟨d, rfl, hφ⟩ hH
    refine ct_same (v := .string (B (Lib.trimLeftB d 48))) ((Tryz.strings_TrimLeft_one (B d) 48 (by decide) w).mono fun e w' ⟨he, hw⟩ => ⟨?_, hw.symm⟩) hφ hH
    rw [he]
    simp [B]
def ctNumParse : Ct Tryz.prog where
  f := 72
  spec := fun args h φ => ∃ l, args = [.string (B l)] ∧ l.length < 1000000 ∧ φ (.tuple #[.int .i64 (pv l).1, .int .i64 (pv l).2]) h
  ok := by rintro args h φ w ⟨l, rfl, hl, hφ⟩ hH; exact ct_same (nparse_any l w hl) hφ hH
def ctRefParse : Ct Tryz.prog where
  f := 81
  spec := fun args h φ => ∃ l, args = [.string (B l)] ∧ l.length < 1000000 ∧ φ (.tuple #[.int .i64 (pv l).1, .int .i64 (pv l).2]) h
  ok := by rintro args h φ w ⟨l, rfl, hl, hφ⟩ hH; exact ct_value (rparse_any l w hl) hφ hH
theorem trimLeftB_len (d : List UInt8) (c : UInt8) : (Lib.trimLeftB d c).length ≤ d.length := by
  unfold Lib.trimLeftB; exact (List.dropWhile_sublist _).length_le
end Go.Proofs.YthlakehilhpojaaGreatDoor
namespace Go.Proofs.YthlakehilhpojaaGreatDoor
open Go.RowKit
attribute [local go_sem] says_tt says_ff th_need th_ite th_call th_callK th_load th_store th_mk th_new th_mks th_str says_ret says_again says_app BE.den IE.den SE.den LE.den AE.den CE.den PE.den VE.den KV.val Got.den Got.cnt exI allI exL allL Ctx.push Ctx.heap Ctx.cut Ctx.bare Ctx.mark Inc.blank List.getD_cons_zero List.getD_cons_succ List.cons_append List.nil_append List.append_nil List.map_cons List.map_nil List.replicate_zero List.replicate_succ specOf ltB_t leB_t ltB_f leB_f slc_val slc_nil slc_inj pt_val pt_nil hle_noHeap hle_refl hread_set hwrite_set set_same set_set noHeap_at B_inj ones_nil and_assoc
theorem dg_in {b : Int} (h : dgB b = true) : inB b = true := by
  have : kdi b = 3 := by simpa [dgB] using h
  simp [inB, this]
theorem in105 : inB 105 = true := by decide
theorem drop_take_sub (s : List UInt8) (i j : Nat) : List.drop i (List.take j s) = sub s i j := rfl
theorem strip_le (d : List UInt8) : (strip d).length ≤ d.length := by
  by_cases h : d = []
  · subst h; exact Nat.le_refl _
  · rw [strip_trim d h]
    have := trimLeftB_len d 48
    split
    · cases d with
      | nil => exact absurd rfl h
      | cons a t => simp
    · exact this
set_option maxRecDepth 100000 in
set_option maxHeartbeats 8000000 in
def ctNumber : Ct Tryz.prog where
  f := 43
  spec := fun args h φ => ∃ b k l c n x s a L Co T, args = [.pointer (some ⟨b, 0, none⟩), tkv k l c n x] ∧ h b = some ⟨rc s a L Co, T⟩ ∧ 0 ≤ a ∧ a < s.length ∧ s.length ≤ 100000 ∧ 0 ≤ Co ∧ Co ≤ 500000 ∧ dgB (bt s a.toNat) = true ∧
    (if (nm s a.toNat).1 = 0 then φ (.tuple #[tkv (nm s a.toNat).2.1 l c (nm s a.toNat).2.2.1 x, .int .i64 0]) (h.set b ⟨rc s ((nm s a.toNat).2.2.2 : Nat) L (Co + ((nm s a.toNat).2.2.2 : Nat) - a), T⟩)
      else φ (.tuple #[tkv 0 0 0 0 [], .int .i64 (nm s a.toNat).1]) h)
  ok := by
    rintro args h φ w ⟨b, k, l, c, n, x, s, a, L, Co, T, rfl, hb, h0, h1, h2, c0, c1, hdg, hφ⟩ hH
    obtain ⟨h, rfl⟩ : ∃ h', h = Hp.set h' b ⟨rc s a L Co, T⟩ := ⟨h, set_self hb⟩
    obtain ⟨a, rfl⟩ : ∃ n : Nat, a = n := ⟨a.toNat, by omega⟩
    rw [Int.toNat_natCast] at hφ hdg
    rw [set_set] at hφ
    have hle := rn_le (p := dgB) (s := s) (i := a) (by omega)
    have hy := rn_yes (p := dgB) (s := s) (i := a) (by omega) hdg
    have hsl := sub_len s (i := a) hle
    have hne : sub s a (a + rn dgB s a) ≠ [] := by intro e; rw [e] at hsl; simp at hsl; omega
    have hst := strip_trim _ hne
    have htl := trimLeftB_len (sub s a (a + rn dgB s a)) 48
    have hnm : nm s a = _ := rfl
    conv at hnm => rhs; unfold nm
    refine by_fm Tryz.func43 gen_number ps_number [ctRun, ctInner, ctTrimZ, ctNumParse, ctPass] φ noInv noMeas ⟨[k, l, c, n], [], [x], [], [], [some (b, 0)], h.set b ⟨rc s a L Co, T⟩, noM⟩ ⟨rfl, rfl, rfl, rfl, rfl, rfl⟩ ones_nil ?_ w hH rfl
    generalize hN : rn dgB s a = N at *
    generalize hD : sub s a (a + N) = d at *
    have e1 : ((a : Int) + (N : Int)).toNat = a + N := by omega
    have e1' : ((a : Int) + ((N : Int) + 1)).toNat = a + N + 1 := by omega
    have e2 : List.drop a (List.take (a + N) s) = d := hD
    -- the number itself
    have hv : ∀ kk most e P (m : Int), nm s a = nfin kk most d e → strip d = P → (pv P).2 = 0 → (pv P).1 ≤ most → (e : Int) = a + m → φ (.tuple #[.agg #[.int .u8 kk, .int .i64 l, .int .i64 c, .int .i64 (pv P).1, .string (B x)], .int .i64 0]) (h.set b ⟨[.string (B s), .int .i64 (a + m), .int .i64 L, .int .i64 (Co + m)], T⟩) := by
      intro kk most e P m hn hP h3 h4 he
      subst hP
      have e' : nfin kk most d e = (0, kk, (pv (strip d)).1, e) := if_pos ⟨h3, h4⟩
      rw [hn, e', if_pos rfl] at hφ
      simp only [rc, tkv, he] at hφ
      rw [show Co + ((a : Int) + m) - a = Co + m by omega] at hφ
      exact hφ
    have ho : ∀ kk most e, nm s a = nfin kk most d e → ¬ ((pv (strip d)).2 = 0 ∧ (pv (strip d)).1 ≤ most) → φ (.tuple #[.agg #[.int .u8 0, .int .i64 0, .int .i64 0, .int .i64 0, .string (B [])], .int .i64 14]) (h.set b ⟨[.string (B s), .int .i64 a, .int .i64 L, .int .i64 Co], T⟩) := by
      intro kk most e hn h3
      have e' : nfin kk most d e = (14, 0, 0, 0) := if_neg h3
      rw [hn, e', if_neg (by decide)] at hφ
      exact hφ
    have h4 : nm s a = (4, 0, 0, 0) → φ (.tuple #[.agg #[.int .u8 0, .int .i64 0, .int .i64 0, .int .i64 0, .string (B [])], .int .i64 4]) (h.set b ⟨[.string (B s), .int .i64 a, .int .i64 L, .int .i64 Co], T⟩) := by
      intro hn
      rw [hn, if_neg (by decide)] at hφ
      exact hφ
    clear hφ
    rw [← then_step]; unfold fm_number
    iterate 90 (first | (simp only [then_step]; simp [go_sem, rc, ctRun, runSpec, ctInner, ctTrimZ, ctNumParse, ctPass, hN, e1, e1', e2]) | skip)
    have hP1 : Lib.trimLeftB d 48 = [] → strip d = [48] := fun h => by rw [hst, if_pos h]
    have hP2 : ¬ Lib.trimLeftB d 48 = [] → strip d = Lib.trimLeftB d 48 := fun h => by rw [hst, if_neg h]
    clear hst hN hD e2 hb hH
    by_cases hk : a + N < s.length
    · have hkz : (a : Int) + N < s.length := by omega
      by_cases h105 : bt s (a + N) = 105
      · have hyy := rn_yes (p := inB) hk (by rw [h105]; exact in105)
        by_cases hk1 : a + N + 1 < s.length
        · have hkz1 : (a : Int) + (N + 1) < s.length := by omega
          cases hin : inB (bt s (a + N + 1))
          · rw [rn_no hk1 hin] at hyy
            have hn : nm s a = nfin 4 8388607 d (a + N + 1) := by rw [hnm, hyy, if_neg (by decide), if_pos ⟨rfl, h105⟩]
            clear h4 hnm
            simp [hkz, hkz1, h105]
            by_cases ht : Lib.trimLeftB d 48 = []
            · have hP := hP1 ht
              by_cases he : (pv [48]).2 = 0
              · by_cases hm : 8388607 < (pv [48]).1
                · simp [ht, he, hm]
                  (repeat' apply And.intro) <;> first | omega | exact ho _ _ _ hn (by rw [hP]; omega)
                · simp [ht, he, hm]
                  (repeat' apply And.intro) <;> first | omega | exact hv _ _ _ _ _ hn hP he (by omega) (by omega)
              · simp [ht, he]
                (repeat' apply And.intro) <;> first | omega | exact ho _ _ _ hn (by rw [hP]; omega)
            · have hP := hP2 ht
              by_cases he : (pv (Lib.trimLeftB d 48)).2 = 0
              · by_cases hm : 8388607 < (pv (Lib.trimLeftB d 48)).1
                · simp [ht, he, hm]
                  (repeat' apply And.intro) <;> first | omega | exact ho _ _ _ hn (by rw [hP]; omega)
                · simp [ht, he, hm]
                  (repeat' apply And.intro) <;> first | omega | exact hv _ _ _ _ _ hn hP he (by omega) (by omega)
              · simp [ht, he]
                (repeat' apply And.intro) <;> first | omega | exact ho _ _ _ hn (by rw [hP]; omega)
          · have := rn_yes hk1 hin
            have hf := h4 (by rw [hnm, if_neg (by omega), if_neg (by omega)])
            simp [hkz, hkz1, h105]
            (repeat' apply And.intro) <;> first | omega | exact hf
        · have hkz1 : ¬ ((a : Int) + (N + 1) < s.length) := by omega
          rw [rn_end (p := inB) (s := s) (i := a + N + 1) (by omega)] at hyy
          have hn : nm s a = nfin 4 8388607 d (a + N + 1) := by rw [hnm, hyy, if_neg (by decide), if_pos ⟨rfl, h105⟩]
          clear h4 hnm
          simp [hkz, hkz1, h105]
          by_cases ht : Lib.trimLeftB d 48 = []
          · have hP := hP1 ht
            by_cases he : (pv [48]).2 = 0
            · by_cases hm : 8388607 < (pv [48]).1
              · simp [ht, he, hm]
                (repeat' apply And.intro) <;> first | omega | exact ho _ _ _ hn (by rw [hP]; omega)
              · simp [ht, he, hm]
                (repeat' apply And.intro) <;> first | omega | exact hv _ _ _ _ _ hn hP he (by omega) (by omega)
            · simp [ht, he]
              (repeat' apply And.intro) <;> first | omega | exact ho _ _ _ hn (by rw [hP]; omega)
          · have hP := hP2 ht
            by_cases he : (pv (Lib.trimLeftB d 48)).2 = 0
            · by_cases hm : 8388607 < (pv (Lib.trimLeftB d 48)).1
              · simp [ht, he, hm]
                (repeat' apply And.intro) <;> first | omega | exact ho _ _ _ hn (by rw [hP]; omega)
              · simp [ht, he, hm]
                (repeat' apply And.intro) <;> first | omega | exact hv _ _ _ _ _ hn hP he (by omega) (by omega)
            · simp [ht, he]
              (repeat' apply And.intro) <;> first | omega | exact ho _ _ _ hn (by rw [hP]; omega)
      · cases hin : inB (bt s (a + N))
        · have hn : nm s a = nfin 3 9223372036854775807 d (a + N) := by rw [hnm, if_pos (rn_no hk hin)]
          clear h4 hnm
          simp [hkz, h105]
          by_cases ht : Lib.trimLeftB d 48 = []
          · have hP := hP1 ht
            by_cases he : (pv [48]).2 = 0
            · by_cases hm : 9223372036854775807 < (pv [48]).1
              · simp [ht, he, hm]
                (repeat' apply And.intro) <;> first | omega | exact ho _ _ _ hn (by rw [hP]; omega)
              · simp [ht, he, hm]
                (repeat' apply And.intro) <;> first | omega | exact hv _ _ _ _ _ hn hP he (by omega) (by omega)
            · simp [ht, he]
              (repeat' apply And.intro) <;> first | omega | exact ho _ _ _ hn (by rw [hP]; omega)
          · have hP := hP2 ht
            by_cases he : (pv (Lib.trimLeftB d 48)).2 = 0
            · by_cases hm : 9223372036854775807 < (pv (Lib.trimLeftB d 48)).1
              · simp [ht, he, hm]
                (repeat' apply And.intro) <;> first | omega | exact ho _ _ _ hn (by rw [hP]; omega)
              · simp [ht, he, hm]
                (repeat' apply And.intro) <;> first | omega | exact hv _ _ _ _ _ hn hP he (by omega) (by omega)
            · simp [ht, he]
              (repeat' apply And.intro) <;> first | omega | exact ho _ _ _ hn (by rw [hP]; omega)
        · have := rn_yes hk hin
          have hf := h4 (by rw [hnm, if_neg (by omega), if_neg (fun h => h105 h.2)])
          simp [hkz, h105]
          (repeat' apply And.intro) <;> first | omega | exact hf
    · have hkz : ¬ ((a : Int) + N < s.length) := by omega
      have hn : nm s a = nfin 3 9223372036854775807 d (a + N) := by rw [hnm, if_pos (rn_end (by omega))]
      clear h4 hnm
      simp [hkz]
      by_cases ht : Lib.trimLeftB d 48 = []
      · have hP := hP1 ht
        by_cases he : (pv [48]).2 = 0
        · by_cases hm : 9223372036854775807 < (pv [48]).1
          · simp [ht, he, hm]
            (repeat' apply And.intro) <;> first | omega | exact ho _ _ _ hn (by rw [hP]; omega)
          · simp [ht, he, hm]
            (repeat' apply And.intro) <;> first | omega | exact hv _ _ _ _ _ hn hP he (by omega) (by omega)
        · simp [ht, he]
          (repeat' apply And.intro) <;> first | omega | exact ho _ _ _ hn (by rw [hP]; omega)
      · have hP := hP2 ht
        by_cases he : (pv (Lib.trimLeftB d 48)).2 = 0
        · by_cases hm : 9223372036854775807 < (pv (Lib.trimLeftB d 48)).1
          · simp [ht, he, hm]
            (repeat' apply And.intro) <;> first | omega | exact ho _ _ _ hn (by rw [hP]; omega)
          · simp [ht, he, hm]
            (repeat' apply And.intro) <;> first | omega | exact hv _ _ _ _ _ hn hP he (by omega) (by omega)
        · simp [ht, he]
          (repeat' apply And.intro) <;> first | omega | exact ho _ _ _ hn (by rw [hP]; omega)
end Go.Proofs.YthlakehilhpojaaGreatDoor
namespace Go.Proofs.YthlakehilhpojaaGreatDoor
open Go.RowKit
attribute [local go_sem] says_tt says_ff th_need th_ite th_call th_callK th_load th_store th_mk th_new th_mks th_str says_ret says_again says_app BE.den IE.den SE.den LE.den AE.den CE.den PE.den VE.den KV.val Got.den Got.cnt exI allI exL allL Ctx.push Ctx.heap Ctx.cut Ctx.bare Ctx.mark Inc.blank List.getD_cons_zero List.getD_cons_succ List.cons_append List.nil_append List.append_nil List.map_cons List.map_nil List.replicate_zero List.replicate_succ specOf ltB_t leB_t ltB_f leB_f slc_val slc_nil slc_inj pt_val pt_nil hle_noHeap hle_refl hread_set hwrite_set set_same set_set noHeap_at B_inj ones_nil and_assoc
def fm_signs : Fm := (.mk [(.s (.c [38, 38])), (.s (.c [124, 124])), (.s (.c [61, 61])), (.s (.c [33, 61])), (.s (.c [60, 61])), (.s (.c [62, 61])), (.s (.c [43])), (.s (.c [45])), (.s (.c [42])), (.s (.c [47])), (.s (.c [37])), (.s (.c [60])), (.s (.c [62])), (.s (.c [33])), (.s (.c [61])), (.s (.c [40])), (.s (.c [41])), (.s (.c [123])), (.s (.c [125])), (.s (.c [91])), (.s (.c [93])), (.s (.c [44])), (.s (.c [59])), (.s (.c [58])), (.s (.c [46]))] 9 25
  (.ret (.p (.one (.sl (.x 0))))))
theorem gen_signs : genFn ⟨true, []⟩ Tryz.prog (fun l => ([] : List LAnn).getD l ⟨[], [], []⟩) Tryz.f75 = fm_signs := by kernel_rfl
theorem ps_signs : freshPs Tryz.prog .zero Tryz.f75.params.toList = some ([], ⟨0, 0, 0, 0, 0, 0⟩) := by kernel_rfl
def fm_sign1 : Fm := (.load (.c true) (.pt 0 0) 1 [(.s (.x 1))] ⟨0, 0, 1, 0, 0, 0⟩
  (.call (.c true) false 78 [(.one (.s (.x 1))), (.one (.s (.x 0)))] (.p (.one (.b (.x 0)))) ⟨0, 1, 0, 0, 0, 0⟩
  (.ret (.p (.one (.b (.x 0)))))))
theorem gen_sign1 : genFnP ⟨true, []⟩ Tryz.prog (fun l => ([] : List LAnn).getD l ⟨[], [], []⟩) Tryz.f77 [.one (.s (.x 0)), .one (.adr (.pt 0 0))] ⟨0, 0, 1, 0, 0, 1⟩ = fm_sign1 := by kernel_rfl
def fm_ixf : Fm := (.loop 0 ⟨[(.c 0), (.c 0)], [], [], [], [], []⟩
  (.ite (.lt (.x 1) (.cnt (.x 0)))
  (.need (.c true) (.and (.and (.le (.c 0) (.x 1)) (.lt (.x 1) (.cnt (.x 0)))) (.nns (.x 0)))
  (.load (.c true) (.el (.x 0) (.x 1) 1 0) 1 [(.s (.x 0))] ⟨0, 0, 1, 0, 0, 0⟩
  (.call (.c true) false 77 [(.one (.s (.x 0))), (.one (.pt 0))] (.p (.one (.b (.x 0)))) ⟨0, 1, 0, 0, 0, 0⟩
  (.ite (.x 0)
  (.ret (.p (.one (.i .i64 (.x 1)))))
  (.need (.c true) (.and (.le (.c (-9223372036854775808)) (.add (.x 1) (.c 1))) (.le (.add (.x 1) (.c 1)) (.c 9223372036854775807)))
  (.again 0 ⟨0, 0, 0, 0, 1, 1⟩ ⟨2, 0, 0, 0, 1, 1⟩ ⟨[(.x 0), (.add (.x 1) (.c 1))], [], [], [], [], []⟩))))))
  (.ret (.p (.one (.i .i64 (.c (-1))))))))
theorem gen_ixf : genFnP ⟨true, []⟩ Tryz.prog (fun l => ([⟨[4, 8], [9, 10, 5, 11, 12, 13, 14, 15, 16, 17, 18], []⟩] : List LAnn).getD l ⟨[], [], []⟩) Tryz.f76 [.one (.sl (.x 0)), .one (.clo 77 [0])] ⟨0, 0, 0, 0, 1, 1⟩ = fm_ixf := by kernel_rfl
def fm_sign : Fm := (.load (.c true) (.pt 0 0) 1 [(.s (.x 1))] ⟨0, 0, 1, 0, 0, 0⟩
  (.load (.c true) (.pt 0 1) 1 [(.i .i64 (.x 4))] ⟨1, 0, 0, 0, 0, 0⟩
  (.need (.c true) (.nnp 0)
  (.need (.c true) (.nnp 0)
  (.need (.c true) (.nnp 0)
  (.need (.c true) (.nnp 0)
  (.need (.c true) (.and (.le (.c 0) (.x 4)) (.le (.x 4) (.len (.x 1))))
  (.call (.c true) false 75 [] (.p (.one (.sl (.x 0)))) ⟨0, 0, 0, 0, 1, 0⟩
  (.new [(.s (.sub (.x 1) (.x 4) (.len (.x 1))))] 9
  (.call (.c true) false 76 [(.one (.sl (.x 0))), (.one (.clo 77 [1]))] (.p (.one (.i .i64 (.x 5)))) ⟨1, 0, 0, 0, 0, 0⟩
  (.ite (.lt (.x 5) (.c 0))
  (.ret (.tup [(.agg [(.i .u8 (.c 0)), (.i .i64 (.c 0)), (.i .i64 (.c 0)), (.i .i64 (.c 0)), (.s (.c []))]), (.one (.i .i64 (.c 4)))]))
  (.load (.c true) (.el (.x 0) (.x 5) 1 0) 1 [(.s (.x 2))] ⟨0, 0, 1, 0, 0, 0⟩
  (.need (.c true) (.and (.and (.le (.c 0) (.x 5)) (.lt (.x 5) (.cnt (.x 0)))) (.nns (.x 0)))
  (.need (.c true) (.and (.and (.le (.c 0) (.x 5)) (.lt (.x 5) (.cnt (.x 0)))) (.nns (.x 0)))
  (.load (.c true) (.el (.x 0) (.x 5) 1 0) 1 [(.s (.x 3))] ⟨0, 0, 1, 0, 0, 0⟩
  (.call (.c true) false 66 [(.one (.pt 0)), (.one (.i .i64 (.len (.x 3))))] (.tup []) ⟨0, 0, 0, 0, 0, 0⟩
  (.ret (.tup [(.agg [(.i .u8 (.c 7)), (.i .i64 (.x 1)), (.i .i64 (.x 2)), (.i .i64 (.x 3)), (.s (.x 2))]), (.one (.i .i64 (.c 0)))]))))))))))))))))))
theorem gen_sign : genFn ⟨true, []⟩ Tryz.prog (fun l => ([] : List LAnn).getD l ⟨[], [], []⟩) Tryz.f45 = fm_sign := by kernel_rfl
theorem ps_sign : freshPs Tryz.prog .zero Tryz.f45.params.toList = some ([(.one (.pt 0)), (.agg [(.i .u8 (.x 0)), (.i .i64 (.x 1)), (.i .i64 (.x 2)), (.i .i64 (.x 3)), (.s (.x 0))])], ⟨4, 0, 1, 0, 0, 1⟩) := by kernel_rfl
def allSigns : List (List UInt8) := [[38, 38], [124, 124], [61, 61], [33, 61], [60, 61], [62, 61], [43], [45], [42], [47], [37], [60], [62], [33], [61], [40], [41], [123], [125], [91], [93], [44], [59], [58], [46]]
/-- The sign that a text begins with; nothing: none. -/
def sg (rest : List UInt8) : List UInt8 := (allSigns.find? fun p => p.isPrefixOf rest).getD []
def strs (l : List (List UInt8)) : List Value := l.map fun x => .string (B x)
/-- The first place of such a one. -/
def fidx (f : List UInt8 → Bool) : List (List UInt8) → Nat → Int
  | [], _ => -1
  | x :: t, k => if f x = true then k else fidx f t (k + 1)
theorem fidx_spec (f : List UInt8 → Bool) : ∀ (ps : List (List UInt8)) (k : Nat), (fidx f ps k = -1 ∧ ps.find? f = none) ∨ ∃ j x, ps[j]? = some x ∧ fidx f ps k = (k + j : Nat) ∧ ps.find? f = some x
  | [], k => .inl ⟨rfl, rfl⟩
  | x :: t, k => by
    by_cases hx : f x = true
    · exact .inr ⟨0, x, rfl, by rw [fidx, if_pos hx]; rfl, by rw [List.find?_cons, hx]⟩
    · have hx' : f x = false := by simpa using hx
      rw [fidx, if_neg hx, List.find?_cons, hx']
      rcases fidx_spec f t (k + 1) with h | ⟨j, y, h1, h2, h3⟩
      · exact .inl h
      · exact .inr ⟨j + 1, y, h1, by rw [h2]; congr 1; omega, h3⟩
theorem strs_len (l : List (List UInt8)) : (strs l).length = l.length := by simp [strs]
theorem hread_strs {h : Hp} {b : Nat} {ps : List (List UInt8)} {T : TypeId} (hb : h b = some ⟨strs ps, T⟩) {k : Nat} {x : List UInt8} (hx : ps[k]? = some x) : hread h (some (b, k)) 1 = some [.string (B x)] := by
  have hlt := (List.getElem?_eq_some_iff.1 hx).1
  have hg := (List.getElem?_eq_some_iff.1 hx).2
  rw [hread_of hb, if_pos (by simp [strs]; omega)]
  have : (strs ps).drop k = .string (B ps[k]) :: (strs ps).drop (k + 1) := by
    rw [List.drop_eq_getElem_cons (by simp [strs]; omega)]
    simp [strs]
  simp only [this, hg]
  rfl
def ctSigns : Ct Tryz.prog where
  f := 75
  spec := fun args h φ => args = [] ∧ ∀ b, h b = none → φ (.slice (some ⟨b, 0, none⟩) 25 25) (h.set b ⟨strs allSigns, 9⟩)
  ok := by
    rintro args h φ w ⟨rfl, hφ⟩ hH
    refine by_fm Tryz.func75 gen_signs ps_signs [] φ noInv noMeas ⟨[], [], [], [], [], [], h, noM⟩ ⟨rfl, rfl, rfl, rfl, rfl, rfl⟩ ones_nil ?_ w hH rfl
    intro b hb
    exact hφ b hb
def ctHasPrefix : Ct Tryz.prog where
  f := 78
  spec := fun args h φ => ∃ s p, args = [.string (B s), .string (B p)] ∧ φ (.bool (p.isPrefixOf s)) h
  ok := by
    rintro args h φ w ⟨s, p, rfl, hφ⟩ hH
    refine ct_same (v := .bool (p.isPrefixOf s)) ((Tryz.strings_HasPrefix (B s) (B p) w).mono fun e w' ⟨he, hw⟩ => ⟨?_, hw.symm⟩) hφ hH
    rw [he]
    simp [B, Lib.hasPrefix]
def ctSign1 : Ct Tryz.prog where
  f := 77
  spec := fun args h φ => ∃ p k rest T, args = [.string (B p), .pointer (some ⟨k, 0, none⟩)] ∧ h k = some ⟨[.string (B rest)], T⟩ ∧ φ (.bool (p.isPrefixOf rest)) h
  ok := by
    rintro args h φ w ⟨p, k, rest, T, rfl, hk, hφ⟩ hH
    refine by_fmP Tryz.func77 gen_sign1 [ctHasPrefix] φ noInv noMeas ⟨[], [], [p], [], [], [some (k, 0)], h, noM⟩ ⟨rfl, rfl, rfl, rfl, rfl, rfl⟩ ones_nil ?_ w hH rfl
    rw [← then_step]; unfold fm_sign1
    iterate 90 (first | (simp only [then_step]; simp [go_sem, ctHasPrefix, hread_of hk, hφ]) | skip)
set_option maxHeartbeats 2000000 in
def ctIxf : Ct Tryz.prog where
  f := 76
  spec := fun args h φ => ∃ b k ps rest T T', args = [.slice (some ⟨b, 0, none⟩) ps.length ps.length, .func (.func 77) #[] #[.pointer (some ⟨k, 0, none⟩)]] ∧ h b = some ⟨strs ps, T⟩ ∧ h k = some ⟨[.string (B rest)], T'⟩ ∧ ps.length ≤ 1000 ∧
    φ (.int .i64 (fidx (fun p => p.isPrefixOf rest) ps 0)) h
  ok := by
    rintro args h φ w ⟨b, k, ps, rest, T, T', rfl, hb, hk, hl, hφ⟩ hH
    refine by_fmP Tryz.func76 gen_ixf [ctSign1] φ (fun _ C => ∃ j : Nat, C = ⟨[0, j], [], [], [], [⟨some (b, 0), ps.length, ps.length⟩], [some (k, 0)], h, noM⟩ ∧ j ≤ ps.length ∧ fidx (fun p => p.isPrefixOf rest) ps 0 = fidx (fun p => p.isPrefixOf rest) (ps.drop j) j) (fun _ C => (ps.length - C.i.getD 1 0).toNat)
      ⟨[], [], [], [], [⟨some (b, 0), ps.length, ps.length⟩], [some (k, 0)], h, noM⟩ ⟨rfl, rfl, rfl, rfl, rfl, rfl⟩ ones_nil ?_ w hH rfl
    refine loop_intro ⟨0, rfl, by omega, rfl⟩ ?_
    rintro i bb ss v ll pp hh M ⟨j, hC, h3, h4⟩ hM
    cases hC
    have hM' : M 0 = ((ps.length : Int) - j).toNat := hM
    rw [h4] at hφ
    by_cases hj : j < ps.length
    · have hjz : (j : Int) < ps.length := by omega
      have hg := List.getElem?_eq_getElem hj
      have hrd := hread_strs hb hg
      rw [List.drop_eq_getElem_cons hj] at h4 hφ
      generalize ps[j] = x at *
      cases hx : x.isPrefixOf rest
      · rw [fidx, if_neg (by rw [hx]; decide)] at h4 hφ
        rw [← then_step]
        iterate 90 (first | (simp only [then_step]; simp [go_sem, ctSign1, hjz, hrd, hk, hx]) | skip)
        (repeat' apply And.intro) <;> first | omega | exact ⟨j + 1, by omega, by omega, h4⟩
      · rw [fidx, if_pos hx] at hφ
        rw [← then_step]
        iterate 90 (first | (simp only [then_step]; simp [go_sem, ctSign1, hjz, hrd, hk, hx, hφ]) | skip)
    · have hjz : ¬ ((j : Int) < ps.length) := by omega
      rw [List.drop_eq_nil_of_le (by omega)] at hφ
      rw [← then_step]
      iterate 90 (first | (simp only [then_step]; simp [go_sem, hjz]) | skip)
      exact hφ
end Go.Proofs.YthlakehilhpojaaGreatDoor
namespace Go.Proofs.YthlakehilhpojaaGreatDoor
open Go.RowKit
attribute [local go_sem] says_tt says_ff th_need th_ite th_call th_callK th_load th_store th_mk th_new th_mks th_str says_ret says_again says_app BE.den IE.den SE.den LE.den AE.den CE.den PE.den VE.den KV.val Got.den Got.cnt exI allI exL allL Ctx.push Ctx.heap Ctx.cut Ctx.bare Ctx.mark Inc.blank List.getD_cons_zero List.getD_cons_succ List.cons_append List.nil_append List.append_nil List.map_cons List.map_nil List.replicate_zero List.replicate_succ specOf ltB_t leB_t ltB_f leB_f slc_val slc_nil slc_inj pt_val pt_nil hle_noHeap hle_refl hread_set hwrite_set set_same set_set noHeap_at B_inj ones_nil and_assoc
theorem find_mem {f : List UInt8 → Bool} {x : List UInt8} (h : allSigns.find? f = some x) : x ≠ [] ∧ x.length ≤ 2 ∧ f x = true := by
  have hm := List.mem_of_find?_eq_some h
  have hall : allSigns.all (fun x => decide (x ≠ []) && decide (x.length ≤ 2)) = true := by decide
  have := List.all_eq_true.1 hall x hm
  simp only [Bool.and_eq_true, decide_eq_true_eq] at this
  exact ⟨this.1, this.2, List.find?_some h⟩
def ctIxs : Ct Tryz.prog where
  f := 76
  spec := fun args h φ => ∃ b k, args = [.slice (some ⟨b, 0, none⟩) 25 25, .func (.func 77) #[] #[.pointer (some ⟨k, 0, none⟩)]] ∧ ∃ rest T T', h b = some ⟨strs allSigns, T⟩ ∧ h k = some ⟨[.string (B rest)], T'⟩ ∧
    φ (.int .i64 (fidx (fun p => p.isPrefixOf rest) allSigns 0)) h
  ok := by
    rintro args h φ w ⟨b, k, rfl, rest, T, T', hb, hk, hφ⟩ hH
    exact ctIxf.ok _ h φ w ⟨b, k, allSigns, rest, T, T', rfl, hb, hk, by decide, hφ⟩ hH
set_option maxRecDepth 100000 in
set_option maxHeartbeats 8000000 in
def ctSign : Ct Tryz.prog where
  f := 45
  spec := fun args h φ => ∃ b k l c n x s a L Co T, args = [.pointer (some ⟨b, 0, none⟩), tkv k l c n x] ∧ h b = some ⟨rc s a L Co, T⟩ ∧ 0 ≤ a ∧ a ≤ s.length ∧ s.length ≤ 100000 ∧ 0 ≤ Co ∧ Co ≤ 500000 ∧
    (if sg (s.drop a.toNat) = [] then φ (.tuple #[tkv 0 0 0 0 [], .int .i64 4]) h
      else φ (.tuple #[tkv 7 l c n (sg (s.drop a.toNat)), .int .i64 0]) (h.set b ⟨rc s (a + (sg (s.drop a.toNat)).length) L (Co + (sg (s.drop a.toNat)).length), T⟩))
  ok := by
    rintro args h φ w ⟨b, k, l, c, n, x, s, a, L, Co, T, rfl, hb, h0, h1, h2, c0, c1, hφ⟩ hH
    obtain ⟨h, rfl⟩ : ∃ h', h = Hp.set h' b ⟨rc s a L Co, T⟩ := ⟨h, set_self hb⟩
    obtain ⟨a, rfl⟩ : ∃ n : Nat, a = n := ⟨a.toNat, by omega⟩
    rw [Int.toNat_natCast, set_set] at hφ
    refine ct_forget (by_fm Tryz.func45 gen_sign ps_sign [ctSigns, ctIxs, ctPass] (fun v k => ∃ k', HLe k' k ∧ φ v k') noInv noMeas ⟨[k, l, c, n], [], [x], [], [], [some (b, 0)], h.set b ⟨rc s a L Co, T⟩, noM⟩ ⟨rfl, rfl, rfl, rfl, rfl, rfl⟩ ones_nil ?_ w hH rfl)
    rw [← then_step]; unfold fm_sign
    iterate 8 (simp only [then_step]; simp [go_sem, rc, ctSigns])
    refine ⟨by omega, fun b1 hb1 => ?_⟩
    simp only [then_step]; simp [go_sem]
    intro b2 hb2
    have n1 : b ≠ b1 := fun e => by rw [← e, set_same] at hb1; cases hb1
    have n2 : b1 ≠ b2 := fun e => by rw [← e, set_same] at hb2; cases hb2
    have n3 : b ≠ b2 := fun e => by rw [← e, set_ne _ n1, set_same] at hb2; cases hb2
    have hs2 : List.drop a (List.take s.length s) = List.drop a s := by rw [List.take_length]
    obtain ⟨R, hR⟩ : ∃ R : List Value, R = [.string (B s), .int .i64 a, .int .i64 L, .int .i64 Co] := ⟨_, rfl⟩
    have hle : ∀ R', HLe (h.set b ⟨R', T⟩) ((((h.set b ⟨R, T⟩).set b1 ⟨strs allSigns, 9⟩).set b2 ⟨[.string (B (s.drop a))], 9⟩).set b ⟨R', T⟩) := fun R' c o hc => by
      rw [← hR] at hb1 hb2
      simp only [Hp.set] at hc hb1 hb2 ⊢
      by_cases e0 : c = b
      · rw [if_pos e0] at hc ⊢; exact hc
      · rw [if_neg e0] at hc ⊢
        by_cases e2 : c = b2
        · subst e2; rw [if_neg n2.symm, if_neg n3.symm, hc] at hb2; cases hb2
        · rw [if_neg e2]
          by_cases e1 : c = b1
          · subst e1; rw [if_neg n1.symm, hc] at hb1; cases hb1
          · rw [if_neg e1, if_neg e0]; exact hc
    have kb : (((h.set b ⟨R, T⟩).set b1 ⟨strs allSigns, 9⟩).set b2 ⟨[.string (B (s.drop a))], 9⟩) b = some ⟨R, T⟩ := by rw [set_ne _ n3, set_ne _ n1, set_same]
    have k1 : (((h.set b ⟨R, T⟩).set b1 ⟨strs allSigns, 9⟩).set b2 ⟨[.string (B (s.drop a))], 9⟩) b1 = some ⟨strs allSigns, 9⟩ := by rw [set_ne _ n2, set_same]
    have k2 : (((h.set b ⟨R, T⟩).set b1 ⟨strs allSigns, 9⟩).set b2 ⟨[.string (B (s.drop a))], 9⟩) b2 = some ⟨[.string (B (s.drop a))], 9⟩ := by rw [set_same]
    rw [← hR]
    generalize ((h.set b ⟨R, T⟩).set b1 ⟨strs allSigns, 9⟩).set b2 ⟨[.string (B (s.drop a))], 9⟩ = H at *
    subst hR
    have hl0 := hle [.string (B s), .int .i64 a, .int .i64 L, .int .i64 Co]
    rw [← set_self kb] at hl0
    unfold sg at hφ
    rcases fidx_spec (fun p => p.isPrefixOf (s.drop a)) allSigns 0 with ⟨f1, f2⟩ | ⟨j, p, f1, f2, f3⟩
    · rw [f2] at hφ
      iterate 90 (first | (simp only [then_step]; simp [go_sem, ctIxs, ctPass, Slc.val, k1, k2, f1]) | skip)
      exact ⟨_, hl0, hφ⟩
    · obtain ⟨p1, p2, _⟩ := find_mem f3
      rw [f3] at hφ
      have hφ' : φ (.tuple #[tkv 7 l c n p, .int .i64 0]) (h.set b ⟨rc s (a + p.length) L (Co + p.length), T⟩) := by simpa [p1] using hφ
      have hj : j < 25 := (List.getElem?_eq_some_iff.1 f1).1
      have hrd := hread_strs k1 f1
      have hlp := hle [.string (B s), .int .i64 (a + p.length), .int .i64 L, .int .i64 (Co + p.length)]
      rw [Nat.zero_add] at f2
      have hjn : ¬ ((j : Int) < 0) := by omega
      iterate 90 (first | (simp only [then_step]; simp [go_sem, ctIxs, ctPass, rc, Slc.val, k1, k2, kb, f2, hrd, hjn]) | skip)
      (repeat' apply And.intro) <;> first | omega | exact ⟨_, hlp, hφ'⟩
end Go.Proofs.YthlakehilhpojaaGreatDoor
namespace Go.Proofs.YthlakehilhpojaaGreatDoor
open Go.RowKit

/-- A hexadecimal digit's value; below 0: it is none. -/
def hx (b : Int) : Int := if 48 ≤ b ∧ b ≤ 57 then b - 48 else if 97 ≤ b ∧ b ≤ 102 then b - 87 else if 65 ≤ b ∧ b ≤ 70 then b - 55 else -1
def ub (n : Int) : UInt8 := UInt8.ofNat n.toNat
/-- A literal, from a place within it on: its bytes, where it ends. -/
def rdA : Nat → List UInt8 → Nat → List UInt8 → Option (List UInt8 × Nat)
  | 0, _, _, _ => none
  | n + 1, s, i, acc =>
    if s.length ≤ i ∨ bt s i < 32 ∨ 126 < bt s i then none
    else if bt s i = 34 then some (acc, i + 1)
    else if bt s i ≠ 92 then rdA n s (i + 1) (acc ++ [ub (bt s i)])
    else if s.length ≤ i + 1 then none
    else if bt s (i + 1) = 34 ∨ bt s (i + 1) = 92 then rdA n s (i + 2) (acc ++ [ub (bt s (i + 1))])
    else if bt s (i + 1) = 110 then rdA n s (i + 2) (acc ++ [10])
    else if bt s (i + 1) = 116 then rdA n s (i + 2) (acc ++ [9])
    else if bt s (i + 1) = 120 then
      if i + 3 < s.length ∧ 0 ≤ hx (bt s (i + 2)) ∧ 0 ≤ hx (bt s (i + 3)) then rdA n s (i + 4) (acc ++ [ub (16 * hx (bt s (i + 2)) + hx (bt s (i + 3)))]) else none
    else none
/-- The literal that a text begins with: its bytes, how many the text's are. -/
def rdq (s : List UInt8) : Option (List UInt8 × Nat) := if s.length = 0 ∨ bt s 0 ≠ 34 then none else rdA s.length s 1 []
theorem hx_pr {b : Int} (h : 0 ≤ hx b) : 32 ≤ b ∧ b ≤ 126 := by
  unfold hx at h; split at h
  · omega
  · split at h
    · omega
    · split at h <;> omega
theorem rdA_some : ∀ (n : Nat) {s : List UInt8} {i : Nat} {acc t : List UInt8} {e : Nat}, rdA n s i acc = some (t, e) → i < e ∧ e ≤ s.length ∧ ∀ j, i ≤ j → j < e → bt s j ≠ 10
  | 0, s, i, acc, t, e, h => by cases h
  | n + 1, s, i, acc, t, e, h => by
    have two : ∀ {a : Nat} {x : List UInt8}, 32 ≤ bt s i → i < s.length → (∀ j, i < j → j < a → bt s j ≠ 10) → i < a → rdA n s a x = some (t, e) → i < e ∧ e ≤ s.length ∧ ∀ j, i ≤ j → j < e → bt s j ≠ 10 := by
      intro a x h1 h2 h3 h4 h5
      obtain ⟨r1, r2, r3⟩ := rdA_some n h5
      refine ⟨by omega, r2, fun j j1 j2 => ?_⟩
      rcases Nat.lt_or_ge j a with ha | ha
      · by_cases hj : j = i
        · subst hj; omega
        · exact h3 j (by omega) ha
      · exact r3 j ha j2
    rw [rdA] at h
    split at h
    · cases h
    · rename_i h0
      have h0' : i < s.length ∧ 32 ≤ bt s i := by omega
      split at h
      · cases h; exact ⟨by omega, by omega, fun j j1 j2 => by rw [show j = i by omega]; omega⟩
      · split at h
        · exact two h0'.2 h0'.1 (fun j j1 j2 => by omega) (by omega) h
        · split at h
          · cases h
          · split at h
            · exact two h0'.2 h0'.1 (fun j j1 j2 => by rw [show j = i + 1 by omega]; omega) (by omega) h
            · split at h
              · exact two h0'.2 h0'.1 (fun j j1 j2 => by rw [show j = i + 1 by omega]; omega) (by omega) h
              · split at h
                · exact two h0'.2 h0'.1 (fun j j1 j2 => by rw [show j = i + 1 by omega]; omega) (by omega) h
                · split at h
                  · split at h
                    · rename_i hx3
                      have e2 := hx_pr hx3.2.1
                      have e3 := hx_pr hx3.2.2
                      exact two h0'.2 h0'.1 (fun j j1 j2 => by
                        rcases (by omega : j = i + 1 ∨ j = i + 2 ∨ j = i + 3) with rfl | rfl | rfl <;> omega) (by omega) h
                    · cases h
                  · cases h
theorem bt_take (s : List UInt8) (e j : Nat) (h : j < e) : bt (s.take e) j = bt s j := by
  unfold bt; simp [List.getD_eq_getElem?_getD, h]
theorem rdA_take : ∀ (n : Nat) {s : List UInt8} {i : Nat} {acc t : List UInt8} {e : Nat}, rdA n s i acc = some (t, e) → rdA n (s.take e) i acc = some (t, e)
  | 0, s, i, acc, t, e, h => by cases h
  | n + 1, s, i, acc, t, e, h => by
    obtain ⟨a1, a2, _⟩ := rdA_some (n + 1) h
    have hl : (s.take e).length = e := by rw [List.length_take]; omega
    have b0 : bt (s.take e) i = bt s i := bt_take s e i a1
    rw [rdA] at h ⊢
    rw [hl, b0]
    split at h
    · cases h
    · rename_i h0
      rw [if_neg (by omega)]
      split at h
      · rename_i h1; rw [if_pos h1]; exact h
      · rename_i h1
        rw [if_neg h1]
        split at h
        · rename_i h2; rw [if_pos h2]; exact rdA_take n h
        · rename_i h2
          rw [if_neg h2]
          split at h
          · cases h
          · rename_i h3
            split at h
            · rename_i h4
              have := (rdA_some n h).1
              rw [if_neg (by omega), bt_take s e (i + 1) (by omega), if_pos h4]; exact rdA_take n h
            · rename_i h4
              split at h
              · rename_i h5
                have := (rdA_some n h).1
                rw [if_neg (by omega), bt_take s e (i + 1) (by omega), if_neg h4, if_pos h5]; exact rdA_take n h
              · rename_i h5
                split at h
                · rename_i h6
                  have := (rdA_some n h).1
                  rw [if_neg (by omega), bt_take s e (i + 1) (by omega), if_neg h4, if_neg h5, if_pos h6]; exact rdA_take n h
                · rename_i h6
                  split at h
                  · rename_i h7
                    split at h
                    · rename_i h8
                      have := (rdA_some n h).1
                      rw [if_neg (by omega), bt_take s e (i + 1) (by omega), if_neg h4, if_neg h5, if_neg h6, if_pos h7, bt_take s e (i + 2) (by omega), bt_take s e (i + 3) (by omega), if_pos ⟨by omega, h8.2⟩]; exact rdA_take n h
                    · cases h
                  · cases h
theorem rdA_fuel : ∀ (n m : Nat) {s : List UInt8} {i : Nat} {acc : List UInt8}, s.length < n + i → s.length < m + i → rdA n s i acc = rdA m s i acc
  | 0, 0, s, i, acc, _, _ => rfl
  | 0, m + 1, s, i, acc, h, _ => by rw [rdA, rdA, if_pos (.inl (by omega))]
  | n + 1, 0, s, i, acc, _, h => by rw [rdA, rdA, if_pos (.inl (by omega))]
  | n + 1, m + 1, s, i, acc, h1, h2 => by
    rw [rdA, rdA, rdA_fuel n m (by omega) (by omega), rdA_fuel n m (i := i + 2) (by omega) (by omega), rdA_fuel n m (i := i + 2) (acc := acc ++ [10]) (by omega) (by omega), rdA_fuel n m (i := i + 2) (acc := acc ++ [9]) (by omega) (by omega), rdA_fuel n m (i := i + 4) (by omega) (by omega)]
theorem rdq_some {s t : List UInt8} {e : Nat} (h : rdq s = some (t, e)) : 1 < e ∧ e ≤ s.length ∧ ∀ j, j < e → bt s j ≠ 10 := by
  unfold rdq at h
  split at h
  · cases h
  · obtain ⟨r1, r2, r3⟩ := rdA_some _ h
    refine ⟨r1, r2, fun j hj => ?_⟩
    by_cases h0 : j = 0
    · subst h0; omega
    · exact r3 j (by omega) hj
/-- What is read is a literal by itself. -/
theorem rdq_take {s t : List UInt8} {e : Nat} (h : rdq s = some (t, e)) : rdq (s.take e) = some (t, e) := by
  obtain ⟨r1, r2, _⟩ := rdq_some h
  unfold rdq at h ⊢
  have hl : (s.take e).length = e := by rw [List.length_take]; omega
  split at h
  · cases h
  · rename_i h0
    rw [hl, bt_take s e 0 (by omega), if_neg (by omega), rdA_fuel e s.length (by omega) (by omega)]
    exact rdA_take _ h

/-- One token: the fault, the kind, the text, the number, where it ends. -/
structure Tk1 where
  f : Int
  k : Int
  x : List UInt8
  n : Int
  e : Nat
def one (s : List UInt8) (i : Nat) : Tk1 :=
  if kdi (bt s i) = 1 ∨ kdi (bt s i) = 2 then ⟨0, nameK (bt s i) (sub s i (i + rn inB s i)), sub s i (i + rn inB s i), 0, i + rn inB s i⟩
  else if kdi (bt s i) = 3 then ⟨(nm s i).1, (nm s i).2.1, [], (nm s i).2.2.1, (nm s i).2.2.2⟩
  else if bt s i = 34 then (match rdq (s.drop i) with | some (t, n) => ⟨0, 5, t, 0, i + n⟩ | none => ⟨4, 0, [], 0, 0⟩)
  else if sg (s.drop i) = [] then ⟨4, 0, [], 0, 0⟩ else ⟨0, 7, sg (s.drop i), 0, i + (sg (s.drop i)).length⟩
/-- A token. -/
structure Tok where
  k : Int
  l : Int
  c : Int
  n : Int
  x : List UInt8
  deriving DecidableEq
def Tok.cs (t : Tok) : List Value := [.int .u8 t.k, .int .i64 t.l, .int .i64 t.c, .int .i64 t.n, .string (B t.x)]
def tcs (l : List Tok) : List Value := l.flatMap Tok.cs
theorem tcs_len (l : List Tok) : (tcs l).length = l.length * 5 := by
  induction l with
  | nil => rfl
  | cons a l ih => rw [tcs, List.flatMap_cons, List.length_append, ← tcs, ih]; simp [Tok.cs]; omega
theorem tcs_app (l m : List Tok) : tcs (l ++ m) = tcs l ++ tcs m := by simp [tcs]
theorem tcs_one (t : Tok) : tcs [t] = t.cs := by simp [tcs]
def lexA : Nat → List UInt8 → Nat → Int × Int → List Tok → (Int × Int × Int) × List Tok
  | 0, _, _, _, acc => ((0, 0, 0), acc)
  | m + 1, s, i, p, acc =>
    if s.length ≤ i + ski false s i then ((0, 0, 0), acc ++ [⟨8, (adv p (sub s i (i + ski false s i))).1, (adv p (sub s i (i + ski false s i))).2, 0, []⟩])
    else if (one s (i + ski false s i)).f = 0 then
      lexA m s (one s (i + ski false s i)).e (adv p (sub s i (one s (i + ski false s i)).e))
        (acc ++ [⟨(one s (i + ski false s i)).k, (adv p (sub s i (i + ski false s i))).1, (adv p (sub s i (i + ski false s i))).2, (one s (i + ski false s i)).n, (one s (i + ski false s i)).x⟩])
    else (((one s (i + ski false s i)).f, (adv p (sub s i (i + ski false s i))).1, (adv p (sub s i (i + ski false s i))).2), [])
def lexAll (s : List UInt8) : (Int × Int × Int) × List Tok := lexA (s.length + 1) s 0 (1, 1) []
theorem kdi10 : kdi 10 = 0 := by decide
theorem find_nl {f : List UInt8 → Bool} {x : List UInt8} (h : allSigns.find? f = some x) : ∀ j, j < x.length → bt x j ≠ 10 := by
  have hm := List.mem_of_find?_eq_some h
  have hall : allSigns.all (fun x => decide (∀ j, j < x.length → bt x j ≠ 10)) = true := by decide +kernel
  simpa using List.all_eq_true.1 hall x hm
theorem bt_app_left (a b : List UInt8) {j : Nat} (h : j < a.length) : bt (a ++ b) j = bt a j := by
  unfold bt; simp [List.getD_eq_getElem?_getD, List.getElem?_append_left h]
theorem sg_ok {s : List UInt8} {i : Nat} (h : sg (s.drop i) ≠ []) : i + (sg (s.drop i)).length ≤ s.length ∧ ∀ j, i ≤ j → j < i + (sg (s.drop i)).length → bt s j ≠ 10 := by
  unfold sg at h ⊢
  cases hf : allSigns.find? (fun p => p.isPrefixOf (s.drop i)) with
  | none => rw [hf] at h; exact absurd rfl h
  | some x =>
    have h1 := (find_mem hf).2.2
    have h2 := find_nl hf
    obtain ⟨t, ht⟩ := List.isPrefixOf_iff_prefix.1 h1
    have hl := congrArg List.length ht
    rw [List.length_append, List.length_drop] at hl
    have hp := (find_mem hf).1
    have hp' : 0 < x.length := List.length_pos_iff.2 hp
    simp only [Option.getD_some]
    refine ⟨by omega, fun j j1 j2 => ?_⟩
    have := h2 (j - i) (by omega)
    rw [← bt_app_left x t (by omega), ht, bt_drop, show i + (j - i) = j by omega] at this
    exact this
theorem nfin_ok {k most : Int} {d : List UInt8} {e : Nat} (h : (nfin k most d e).1 = 0) : (nfin k most d e).2.2.2 = e := by
  unfold nfin at h ⊢
  split
  · rfl
  · rename_i h1; rw [if_neg h1] at h; exact absurd h (by decide)
theorem one_ok {s : List UInt8} {i : Nat} (hi : i < s.length) (h : (one s i).f = 0) : i < (one s i).e ∧ (one s i).e ≤ s.length ∧ ∀ j, i ≤ j → j < (one s i).e → bt s j ≠ 10 := by
  have flat : ∀ {p : Int → Bool}, p 10 = false → ∀ j, i ≤ j → j < i + rn p s i → bt s j ≠ 10 := fun hp j j1 j2 e => by
    have := (rn_in j1 j2).2
    rw [e, hp] at this; cases this
  unfold one at h ⊢
  split
  · rename_i hk
    have hin : inB (bt s i) = true := by simp only [inB, decide_eq_true_eq]; omega
    have := rn_yes (p := inB) hi hin
    exact ⟨by simp only; omega, rn_le (by omega), flat (by decide)⟩
  · rename_i h1
    rw [if_neg h1] at h
    split
    · rename_i h2
      rw [if_pos h2] at h
      have hdg : dgB (bt s i) = true := by simp only [dgB, decide_eq_true_eq]; exact h2
      have hy := rn_yes (p := dgB) hi hdg
      have hle := rn_le (p := dgB) (s := s) (i := i) (by omega)
      have hfl := flat (p := dgB) (by decide)
      simp only at h ⊢
      unfold nm at h ⊢
      split
      · rename_i h3
        rw [if_pos h3] at h
        rw [nfin_ok h]
        exact ⟨by omega, hle, hfl⟩
      · rename_i h3
        rw [if_neg h3] at h
        split
        · rename_i h4
          rw [if_pos h4] at h
          rw [nfin_ok h]
          have hlt : i + rn dgB s i < s.length := by
            by_cases hq : i + rn dgB s i < s.length
            · exact hq
            · exact absurd (rn_end (by omega)) h3
          refine ⟨by omega, by omega, fun j j1 j2 => ?_⟩
          by_cases hj : j = i + rn dgB s i
          · subst hj; omega
          · exact hfl j j1 (by omega)
        · rename_i h4
          rw [if_neg h4] at h; exact absurd h (by decide)
    · rename_i h2
      rw [if_neg h2] at h
      split
      · rename_i h3
        rw [if_pos h3] at h
        cases hq : rdq (s.drop i) with
        | none => rw [hq] at h; simp at h
        | some r =>
          obtain ⟨t, n⟩ := r
          obtain ⟨r1, r2, r3⟩ := rdq_some hq
          rw [List.length_drop] at r2
          refine ⟨by simp only; omega, by simp only; omega, fun j j1 j2 => ?_⟩
          have := r3 (j - i) (by simp only at j2; omega)
          rw [bt_drop, show i + (j - i) = j by omega] at this
          exact this
      · rename_i h3
        rw [if_neg h3] at h
        split
        · rename_i h4; rw [if_pos h4] at h; exact absurd h (by decide)
        · rename_i h4
          obtain ⟨r1, r2⟩ := sg_ok h4
          have : 0 < (sg (s.drop i)).length := List.length_pos_iff.2 h4
          exact ⟨by simp only; omega, r1, r2⟩
/-- The place behind a token. -/
theorem one_adv {s : List UInt8} {i j : Nat} (p : Int × Int) (hij : i ≤ j) (hj : j < s.length) (h : (one s j).f = 0) :
    adv p (sub s i (one s j).e) = ((adv p (sub s i j)).1, (adv p (sub s i j)).2 + ((one s j).e : Int) - j) := by
  obtain ⟨h1, h2, h3⟩ := one_ok hj h
  rw [sub_sub s hij (Nat.le_of_lt h1) h2, adv_app]
  obtain ⟨n, hn⟩ := Nat.exists_eq_add_of_le (Nat.le_of_lt h1)
  rw [hn] at h2 h3 ⊢
  rw [adv_flat _ s h2 h3]
  simp; omega
end Go.Proofs.YthlakehilhpojaaGreatDoor
