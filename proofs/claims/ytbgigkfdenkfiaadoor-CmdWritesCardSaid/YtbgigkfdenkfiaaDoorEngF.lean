/- The engine, part F: code, loops, functions. -/
import Derived.Test.YtbgigkfdenkfiaaDoorEngS
import Derived.Test.YtbgigkfdenkfiaaDoorEngT
import Derived.Deep.LoopGhost
namespace Go.Proofs.YtbgigkfdenkfiaaDoor
open Go.RowKit

/-! ### A loop's head -/
structure GLe (g h : Got) : Prop where
  i : g.i <+: h.i
  b : g.b <+: h.b
  s : g.s <+: h.s
  v : g.v <+: h.v
  l : g.l <+: h.l
  p : g.p <+: h.p
theorem GLe.refl (g : Got) : GLe g g := ⟨List.prefix_refl _, List.prefix_refl _, List.prefix_refl _, List.prefix_refl _, List.prefix_refl _, List.prefix_refl _⟩
theorem GLe.trans {f g h : Got} (p : GLe f g) (q : GLe g h) : GLe f h := ⟨p.i.trans q.i, p.b.trans q.b, p.s.trans q.s, p.v.trans q.v, p.l.trans q.l, p.p.trans q.p⟩
/-- The context of a head: the names stand for what was found. -/
def gotCtx (C0 C : Ctx) (g : Got) : Ctx := (C0.push (g.den C)).heap C.h
theorem getD_app_at {α : Type} {l m t : List α} {x d : α} {j : Nat} (hj : l.length + m.length = j) (h : m ++ [x] <+: t) : (l ++ t).getD j d = x := by
  obtain ⟨u, rfl⟩ := h
  subst hj
  simp [List.getElem?_append_right]
theorem pre_map {α β : Type} {f : α → β} {l m : List α} (h : l <+: m) : l.map f <+: m.map f := by
  obtain ⟨t, rfl⟩ := h
  rw [List.map_append]; exact List.prefix_append _ _
section
variable {n : Cnt} {C0 C : Ctx} {ρ : Nat → Nat}

structure Base (n : Cnt) (C0 C : Ctx) : Prop where
  ext : Ext C0 C
  has : Has C0 n
theorem gotCtx_ext (C0 C : Ctx) (g : Got) : Ext C0 (gotCtx C0 C g) := (Ext.push C0 _).trans (Ext.heap _ _)
theorem Base.agr (h : Base n C0 C) (g : Got) : Agr n (gotCtx C0 C g) C := by
  have h1 := (gotCtx_ext C0 C g).agr h.has
  have h2 := h.ext.agr h.has
  exact ⟨fun k hk => (h1.i k hk).symm.trans (h2.i k hk), fun k hk => (h1.b k hk).symm.trans (h2.b k hk), fun k hk => (h1.s k hk).symm.trans (h2.s k hk), fun k hk => (h1.v k hk).symm.trans (h2.v k hk), fun k hk => (h1.l k hk).symm.trans (h2.l k hk), fun k hk => (h1.p k hk).symm.trans (h2.p k hk)⟩

theorem matchC_sound (hB : Base n C0 C) {g g' : Got} {c e : CE} (h : matchC n g c e = some g') : GLe g g' ∧ ∀ G, GLe g' G → (∀ x ∈ G.v, x.plain = true) → c.den (gotCtx C0 C G) ρ = e.den C ρ := by
  unfold matchC at h
  split at h
  · rename_i k j k' e
    split at h
    · rename_i hj
      obtain ⟨hj, rfl⟩ := hj
      cases h
      refine ⟨⟨List.prefix_append _ _, List.prefix_refl _, List.prefix_refl _, List.prefix_refl _, List.prefix_refl _, List.prefix_refl _⟩, fun G hG _ => ?_⟩
      show Value.int k ((C0.i ++ G.i.map (IE.den C)).getD j 0) = _
      rw [getD_app_at (m := g.i.map (IE.den C)) (x := e.den C) (by rw [List.length_map, hB.has.i]; exact hj) (by have := pre_map (f := IE.den C) hG.i; simpa using this)]
      rfl
    · split at h
      · rename_i hq
        obtain ⟨rfl, rfl, hlt⟩ := hq
        cases h
        refine ⟨GLe.refl _, fun G _ _ => ?_⟩
        show Value.int k ((gotCtx C0 C G).i.getD j 0) = Value.int k (C.i.getD j 0)
        rw [(hB.agr G).i j hlt]
      · cases h
  · rename_i j e
    split at h
    · rename_i hj
      cases h
      refine ⟨⟨List.prefix_refl _, List.prefix_append _ _, List.prefix_refl _, List.prefix_refl _, List.prefix_refl _, List.prefix_refl _⟩, fun G hG _ => ?_⟩
      show Value.bool ((C0.b ++ G.b.map (BE.den C)).getD j false) = _
      rw [getD_app_at (m := g.b.map (BE.den C)) (x := e.den C) (by rw [List.length_map, hB.has.b]; exact hj) (by have := pre_map (f := BE.den C) hG.b; simpa using this)]
      rfl
    · split at h
      · rename_i hq
        obtain ⟨rfl, hlt⟩ := hq
        cases h
        refine ⟨GLe.refl _, fun G _ _ => ?_⟩
        show Value.bool ((gotCtx C0 C G).b.getD j false) = Value.bool (C.b.getD j false)
        rw [(hB.agr G).b j hlt]
      · cases h
  · rename_i j e
    split at h
    · rename_i hj
      cases h
      refine ⟨⟨List.prefix_refl _, List.prefix_refl _, List.prefix_append _ _, List.prefix_refl _, List.prefix_refl _, List.prefix_refl _⟩, fun G hG _ => ?_⟩
      show Value.string (B ((C0.s ++ G.s.map (SE.den C)).getD j [])) = _
      rw [getD_app_at (m := g.s.map (SE.den C)) (x := e.den C) (by rw [List.length_map, hB.has.s]; exact hj) (by have := pre_map (f := SE.den C) hG.s; simpa using this)]
      rfl
    · split at h
      · rename_i hq
        obtain ⟨rfl, hlt⟩ := hq
        cases h
        refine ⟨GLe.refl _, fun G _ _ => ?_⟩
        show Value.string (B ((gotCtx C0 C G).s.getD j [])) = Value.string (B (C.s.getD j []))
        rw [(hB.agr G).s j hlt]
      · cases h
  · rename_i j i
    split at h
    · rename_i hj
      cases h
      refine ⟨⟨List.prefix_refl _, List.prefix_refl _, List.prefix_refl _, List.prefix_append _ _, List.prefix_refl _, List.prefix_refl _⟩, fun G hG _ => ?_⟩
      show (C0.v ++ G.v.map (CE.den C noOwn)).getD j undef = _
      rw [getD_app_at (m := g.v.map (CE.den C noOwn)) (x := (CE.v i).den C noOwn) (by rw [List.length_map, hB.has.v]; exact hj) (by have := pre_map (f := CE.den C noOwn) hG.v; simpa using this)]
      rfl
    · split at h
      · rename_i hq
        obtain ⟨rfl, hlt⟩ := hq
        cases h
        exact ⟨GLe.refl _, fun G _ _ => (hB.agr G).v j hlt⟩
      · cases h
  · rename_i j x
    split at h
    · rename_i hj
      cases h
      refine ⟨⟨List.prefix_refl _, List.prefix_refl _, List.prefix_refl _, List.prefix_append _ _, List.prefix_refl _, List.prefix_refl _⟩, fun G hG _ => ?_⟩
      show (C0.v ++ G.v.map (CE.den C noOwn)).getD j undef = _
      rw [getD_app_at (m := g.v.map (CE.den C noOwn)) (x := (CE.c x).den C noOwn) (by rw [List.length_map, hB.has.v]; exact hj) (by have := pre_map (f := CE.den C noOwn) hG.v; simpa using this)]
      rfl
    · cases h
  · rename_i j e
    split at h
    · rename_i hj
      cases h
      refine ⟨⟨List.prefix_refl _, List.prefix_refl _, List.prefix_refl _, List.prefix_refl _, List.prefix_append _ _, List.prefix_refl _⟩, fun G hG _ => ?_⟩
      show ((C0.l ++ G.l.map (LE.den C)).getD j ⟨none, 0, 0⟩).val = _
      rw [getD_app_at (m := g.l.map (LE.den C)) (x := e.den C) (by rw [List.length_map, hB.has.l]; exact hj) (by have := pre_map (f := LE.den C) hG.l; simpa using this)]
      rfl
    · split at h
      · rename_i hq
        obtain ⟨rfl, hlt⟩ := hq
        cases h
        refine ⟨GLe.refl _, fun G _ _ => ?_⟩
        show ((gotCtx C0 C G).l.getD j ⟨none, 0, 0⟩).val = (C.l.getD j ⟨none, 0, 0⟩).val
        rw [(hB.agr G).l j hlt]
      · cases h
  · rename_i j i
    split at h
    · rename_i hj
      cases h
      refine ⟨⟨List.prefix_refl _, List.prefix_refl _, List.prefix_refl _, List.prefix_refl _, List.prefix_refl _, List.prefix_append _ _⟩, fun G hG _ => ?_⟩
      show Value.pointer (((C0.p ++ G.p.map fun c => ptrOf (c.den C noOwn)).getD j none).map fun x => ⟨x.1, x.2, none⟩) = _
      rw [getD_app_at (m := g.p.map fun c => ptrOf (c.den C noOwn)) (x := ptrOf ((CE.pt i).den C noOwn)) (by rw [List.length_map, hB.has.p]; exact hj) (by have := pre_map (f := fun c : CE => ptrOf (c.den C noOwn)) hG.p; simpa using this)]
      show Value.pointer ((ptrOf (Value.pointer ((C.p.getD i none).map fun x => ⟨x.1, x.2, none⟩))).map fun x => (⟨x.1, x.2, none⟩ : Addr)) = Value.pointer ((C.p.getD i none).map fun x => ⟨x.1, x.2, none⟩)
      cases C.p.getD i none <;> rfl
    · split at h
      · rename_i hq
        obtain ⟨rfl, hlt⟩ := hq
        cases h
        refine ⟨GLe.refl _, fun G _ _ => ?_⟩
        show Value.pointer (((gotCtx C0 C G).p.getD j none).map fun x => ⟨x.1, x.2, none⟩) = Value.pointer ((C.p.getD j none).map fun x => ⟨x.1, x.2, none⟩)
        rw [(hB.agr G).p j hlt]
      · cases h
  · rename_i j
    split at h
    · rename_i hj
      cases h
      refine ⟨⟨List.prefix_refl _, List.prefix_refl _, List.prefix_refl _, List.prefix_refl _, List.prefix_refl _, List.prefix_append _ _⟩, fun G hG _ => ?_⟩
      show Value.pointer (((C0.p ++ G.p.map fun c => ptrOf (c.den C noOwn)).getD j none).map fun x => ⟨x.1, x.2, none⟩) = _
      rw [getD_app_at (m := g.p.map fun c => ptrOf (c.den C noOwn)) (x := ptrOf ((CE.c .nilp).den C noOwn)) (by rw [List.length_map, hB.has.p]; exact hj) (by have := pre_map (f := fun c : CE => ptrOf (c.den C noOwn)) hG.p; simpa using this)]
      rfl
    · cases h
  · split at h
    · rename_i hq
      obtain ⟨rfl, hb⟩ := hq
      cases h
      exact ⟨GLe.refl _, fun G _ _ => c.den_blw (hB.agr G) ρ hb⟩
    · cases h
theorem matchL_sound (hB : Base n C0 C) : ∀ {cs es : List CE} {g g' : Got}, matchL n g cs es = some g' → GLe g g' ∧ ∀ G, GLe g' G → (∀ x ∈ G.v, x.plain = true) → cs.map (CE.den (gotCtx C0 C G) ρ) = es.map (CE.den C ρ) := by
  intro cs
  induction cs with
  | nil =>
    intro es g g' h
    cases es with
    | nil => cases h; exact ⟨GLe.refl _, fun _ _ _ => rfl⟩
    | cons _ _ => cases h
  | cons c cs ih =>
    intro es g g' h
    cases es with
    | nil => cases h
    | cons e es =>
      simp only [matchL, Option.bind_eq_some_iff] at h
      obtain ⟨g1, h1, h2⟩ := h
      obtain ⟨a1, b1⟩ := matchC_sound (ρ := ρ) hB h1
      obtain ⟨a2, b2⟩ := ih h2
      exact ⟨a1.trans a2, fun G hG hp => by rw [List.map_cons, List.map_cons, b1 G (a2.trans hG) hp, b2 G hG hp]⟩
theorem matchV_sound (hB : Base n C0 C) {g g' : Got} {c e : VE} (h : matchV n g c e = some g') : GLe g g' ∧ ∀ G, GLe g' G → (∀ x ∈ G.v, x.plain = true) → ∀ (t u : Array Value) x, e.holds C ρ t x → c.holds (gotCtx C0 C G) ρ u x := by
  unfold matchV at h
  split at h
  · cases h; exact ⟨GLe.refl _, fun _ _ _ _ _ _ _ => trivial⟩
  · obtain ⟨h1, h2⟩ := matchC_sound (ρ := ρ) hB h
    exact ⟨h1, fun G hG hp t u x hx => by show _ = _; rw [show PE.den (gotCtx C0 C G) ρ (.one _) = _ from h2 G hG hp]; exact hx⟩
  · obtain ⟨h1, h2⟩ := matchL_sound (ρ := ρ) hB h
    exact ⟨h1, fun G hG hp t u x hx => by show _ = Value.agg _; rw [h2 G hG hp]; exact hx⟩
  · cases h
theorem matchT_sound (hB : Base n C0 C) : ∀ {cs es : List VE} {g g' : Got}, matchT n g cs es = some g' → GLe g g' ∧ cs.length = es.length ∧ ∀ G, GLe g' G → (∀ x ∈ G.v, x.plain = true) → ∀ (t u : Array Value) (i : Nat) c, cs[i]? = some c → ∃ e, es[i]? = some e ∧ ∀ x, e.holds C ρ t x → c.holds (gotCtx C0 C G) ρ u x := by
  intro cs
  induction cs with
  | nil =>
    intro es g g' h
    cases es with
    | nil => cases h; exact ⟨GLe.refl _, rfl, fun _ _ _ _ _ _ _ h => by simp at h⟩
    | cons _ _ => cases h
  | cons c cs ih =>
    intro es g g' h
    cases es with
    | nil => cases h
    | cons e es =>
      simp only [matchT, Option.bind_eq_some_iff] at h
      obtain ⟨g1, h1, h2⟩ := h
      obtain ⟨a1, b1⟩ := matchV_sound (ρ := ρ) hB h1
      obtain ⟨a2, l2, b2⟩ := ih h2
      refine ⟨a1.trans a2, by simp [l2], fun G hG hp t u i d hd => ?_⟩
      cases i with
      | zero =>
        simp at hd; subst hd
        exact ⟨e, rfl, fun x hx => b1 G (a2.trans hG) hp t u x hx⟩
      | succ i => exact b2 G hG hp t u i d (by simpa using hd)
theorem matchM_sound (hB : Base n C0 C) : ∀ {cs es : List Blk} {g g' : Got}, matchM n g cs es = some g' → GLe g g' ∧ cs.length ≤ es.length ∧ ∀ G, GLe g' G → (∀ x ∈ G.v, x.plain = true) → ∀ (k : Nat) c, cs[k]? = some c → ∃ e, es[k]? = some e ∧ c.ty = e.ty ∧ c.cells.map (CE.den (gotCtx C0 C G) ρ) = e.cells.map (CE.den C ρ) := by
  intro cs
  induction cs with
  | nil => intro es g g' h; cases h; exact ⟨GLe.refl _, Nat.zero_le _, fun _ _ _ _ _ h => by simp at h⟩
  | cons c cs ih =>
    intro es g g' h
    cases es with
    | nil => cases h
    | cons e es =>
      simp only [matchM] at h
      split at h
      · rename_i hty
        simp only [Option.bind_eq_some_iff] at h
        obtain ⟨g1, h1, h2⟩ := h
        obtain ⟨a1, b1⟩ := matchL_sound (ρ := ρ) hB h1
        obtain ⟨a2, l2, b2⟩ := ih h2
        refine ⟨a1.trans a2, by simp; exact l2, fun G hG hp k d hd => ?_⟩
        cases k with
        | zero =>
          simp at hd; subst hd
          exact ⟨e, rfl, hty, b1 G (a2.trans hG) hp⟩
        | succ k => exact b2 G hG hp k d (by simpa using hd)
      · cases h
end

section
variable {P : Program} {E : Env} {B : Nat} {h0 : Hp} {w0 : World} {ρ : Nat → Nat} {C : Ctx} {a : Act} {w : World}

theorem fits_ones {g : Got} {st : St} (R : Rep B h0 w0 ρ st C a w) (hf : g.fits st.n = true) : (∀ x ∈ g.v, x.plain = true) ∧ Ones (g.v.map (CE.den C noOwn)) := by
  unfold Got.fits at hf
  have h := List.all_eq_true.1 hf
  refine ⟨fun x hx => ?_, fun u hu => ?_⟩
  · have := h x hx
    simp only [Bool.and_eq_true] at this
    exact this.1
  · obtain ⟨c, hc, rfl⟩ := List.mem_map.1 hu
    have := h c hc
    simp only [CE.sto, Bool.and_eq_true, decide_eq_true_eq, Bool.not_eq_true'] at this
    exact ce_one R.ones noOwn c st.n R.cv.symm this.2.1.1 this.2.1.2 this.2.2
theorem Got.den_cnt (g : Got) (C : Ctx) : (g.den C).cnt = g.cnt := by simp [Got.den, Got.cnt, Inc.cnt]
/-- What stands for a round's end stands for the head, at what the names have become. -/
theorem match_rep {C0 : Ctx} {n : Cnt} {hd st : St} {g : Got} (R : Rep B h0 w0 ρ st C a w) (hB : Base n C0 C) (ho0 : Ones C0.v) (h : matchSt n hd st = some g) (hf : g.fits st.n = true) (hn : hd.n = n.add g.cnt) : Rep B h0 w0 ρ hd (gotCtx C0 C g) a w := by
  unfold matchSt at h
  simp only [Option.bind_eq_some_iff] at h
  obtain ⟨g1, h1, h2⟩ := h
  obtain ⟨a1, l1, b1⟩ := matchT_sound (ρ := ρ) hB h1
  obtain ⟨a2, l2, b2⟩ := matchM_sound (ρ := ρ) hB h2
  obtain ⟨hp, hones⟩ := fits_ones R hf
  have H : Has (gotCtx C0 C g) hd.n := (hB.has.push (by rw [Got.den_cnt]; exact hn.symm)).heap _
  refine ⟨R.defers, by rw [R.size, l1], ?_, ?_, fun k hk => R.fresh k (by omega), fun k j hk hj => R.inj k j (by omega) (by omega), fun k hk => R.free k (by omega), R.holds, R.fr, R.base, H.i, H.b, H.s, H.v, H.l, H.p, ones_push ho0 hones⟩
  · intro i v hv
    obtain ⟨e, he, hh⟩ := b1 g a2 hp a.tmps a.tmps i v hv
    exact hh _ (R.slots i e he)
  · intro k b hb
    obtain ⟨e, he, hty, hc⟩ := b2 g (GLe.refl _) hp k b hb
    rw [R.blocks k e he, hty, hc]

/-! ### Code -/
/-- What follows. -/
def After (E : Env) (B : Nat) (h0 : Hp) (w0 : World) (C0 : Ctx) (K : Exit → St → Fm) (e : Exit) (a : Act) (w : World) : Prop :=
  ∃ ρ st D, Ext C0 D ∧ Rep B h0 w0 ρ st D a w ∧ (K e st).says E D
theorem After.ext {C0 D : Ctx} {K : Exit → St → Fm} {e : Exit} (hx : Ext C0 D) (h : After E B h0 w0 D K e a w) : After E B h0 w0 C0 K e a w := by
  obtain ⟨ρ, st, F, h1, h2, h3⟩ := h
  exact ⟨ρ, st, F, hx.trans h1, h2, h3⟩
theorem cut_ext {C D : Ctx} {n : Cnt} (hx : Ext C D) (H : Has C n) : D.cut n = C.heap D.h := by
  obtain ⟨⟨t1, h1⟩, ⟨t2, h2⟩, ⟨t3, h3⟩, ⟨t4, h4⟩, ⟨t5, h5⟩, ⟨t6, h6⟩⟩ := hx
  obtain ⟨a1, a2, a3, a4, a5, a6⟩ := H
  cases C; cases D
  simp only at h1 h2 h3 h4 h5 h6 a1 a2 a3 a4 a5 a6
  subst h1 h2 h3 h4 h5 h6
  simp [Ctx.cut, Ctx.heap, ← a1, ← a2, ← a3, ← a4, ← a5, ← a6]
theorem ext_push {C D : Ctx} {n m k : Cnt} (hx : Ext C D) (H : Has C n) (K : Has D m) (hm : m = n.add k) (ho : Ones D.v) : ∃ x : Inc, D = (C.push x).heap D.h ∧ x.cnt = k ∧ Ones x.v := by
  obtain ⟨⟨t1, h1⟩, ⟨t2, h2⟩, ⟨t3, h3⟩, ⟨t4, h4⟩, ⟨t5, h5⟩, ⟨t6, h6⟩⟩ := hx
  obtain ⟨a1, a2, a3, a4, a5, a6⟩ := H
  obtain ⟨b1, b2, b3, b4, b5, b6⟩ := K
  subst hm
  cases C; cases D
  simp only at h1 h2 h3 h4 h5 h6 a1 a2 a3 a4 a5 a6
  subst h1 h2 h3 h4 h5 h6
  simp only [List.length_append, Cnt.add] at b1 b2 b3 b4 b5 b6
  refine ⟨⟨t1, t2, t3, t4, t5, t6⟩, rfl, ?_, fun u hu => ho u (List.mem_append_right _ hu)⟩
  cases k
  simp only [Inc.cnt, Cnt.mk.injEq]
  simp only at b1 b2 b3 b4 b5 b6
  omega

theorem gen_sound (hE : Good P E) (nw : Bool) (A : Nat → LAnn) (c : Code) : ∀ (l : Nat) (st : St) (K : Exit → St → Fm) (ρ : Nat → Nat) (C : Ctx) (a : Act) (w : World), Rep B h0 w0 ρ st C a w → (gen nw P A c l st K).says E C →
    c.wp P (After E B h0 w0 C K) a w := by
  induction c with
  | skip => intro l st K ρ C a w R hs; exact wp_skip ⟨ρ, st, C, Ext.refl C, R, hs⟩
  | region id ops draw =>
    intro l st K ρ C a w R hs
    cases draw with
    | true =>
      simp only [gen] at hs
      split at hs
      · rename_i hm
        exact draw_sound hm hE R hs fun ρ st D a w hx R hs => ⟨ρ, st, D, hx, R, hs⟩
      · exact (hs : False).elim
    | false =>
      refine wp_region_list ?_
      exact genOps_sound hE ops.toList R hs fun ρ st D a w hx R hs => ⟨ρ, st, D, hx, R, hs⟩
  | seq x y ihx ihy =>
    intro l st K ρ C a w R hs
    refine wp_seq ?_
    refine wp_mono (ihx l st _ ρ C a w R hs) ?_
    rintro e a w ⟨ρ, st, D, hx, R, hs⟩
    cases e with
    | normal => exact wp_mono (ihy _ st K ρ D a w R hs) fun e a w h => h.ext hx
    | exit id => exact ⟨ρ, st, D, hx, R, hs⟩
    | goto l => exact ⟨ρ, st, D, hx, R, hs⟩
    | ret => exact ⟨ρ, st, D, hx, R, hs⟩
    | panic ch => exact ⟨ρ, st, D, hx, R, hs⟩
    | outgrown => exact ⟨ρ, st, D, hx, R, hs⟩
  | cond c x y ihx ihy =>
    intro l st K ρ C a w R hs
    simp only [gen] at hs
    split at hs
    · rename_i hc
      have := opd_eval R (conds_nil _) hc
      exact wp_cond_true this (ihx l st K ρ C a w R hs)
    · rename_i hc
      have := opd_eval R (conds_nil _) hc
      exact wp_cond_false this (ihy _ st K ρ C a w R hs)
    · rename_i e h1 h2 hc
      have := opd_eval R (conds_nil _) hc
      exact wp_cond_split this (fun ht => ihx l st K ρ C a w R (hs.1 ht)) (fun hf => ihy _ st K ρ C a w R (hs.2 hf))
    · exact hs.elim
  | block id c ih =>
    intro l st K ρ C a w R hs
    refine wp_block ?_
    refine wp_mono (ih l st _ ρ C a w R hs) ?_
    rintro e a w ⟨ρ, st, D, hx, R, hs⟩
    cases e with
    | exit j =>
      simp only [Exit.inBlock]
      simp only at hs
      split at hs
      · rename_i h; rw [if_pos h]; exact ⟨ρ, st, D, hx, R, hs⟩
      · rename_i h; rw [if_neg h]; exact ⟨ρ, st, D, hx, R, hs⟩
    | normal => exact ⟨ρ, st, D, hx, R, hs⟩
    | goto l => exact ⟨ρ, st, D, hx, R, hs⟩
    | ret => exact ⟨ρ, st, D, hx, R, hs⟩
    | panic ch => exact ⟨ρ, st, D, hx, R, hs⟩
    | outgrown => exact ⟨ρ, st, D, hx, R, hs⟩
  | loop c ih =>
    intro l st K ρ C a w R hs
    simp only [gen] at hs
    split at hs
    · rename_i g hg
      split at hs
      · exact hs.elim
      · rename_i hck
        simp only [Bool.not_eq_true, Bool.not_eq_false', Bool.and_eq_true, decide_eq_true_eq] at hck
        obtain ⟨hfit, hn⟩ := hck
        obtain ⟨hinv, hall⟩ := hs
        have hB : Base st.n C C := ⟨Ext.refl C, R.has⟩
        have R1 := match_rep R hB R.ones hg hfit hn
        refine wp_loop_ghost (fun m a w => ∃ ρ D, Ext C D ∧ Rep B h0 w0 ρ (headSt (A l) st) D a w ∧ E.inv l D ∧ E.meas l (D.heap noHeap) = m) (E.meas l ((gotCtx C C g).heap noHeap)) ⟨ρ, _, gotCtx_ext _ _ _, R1, hinv, rfl⟩ ?_
        rintro m a w ⟨ρ, D, hx, RD, hi, rfl⟩
        have hsay : (gen nw P A c (l + 1) (headSt (A l) st) fun e st' => match e with
            | .normal => match matchSt st.n (headSt (A l) st) st' with
              | some g => if !(g.fits st'.n && decide ((headSt (A l) st).n = st.n.add g.cnt)) then .ff else .again l st.n (headSt (A l) st).n g
              | none => .ff
            | e => K e st').says E D := by
          rw [allI_iff] at hall
          obtain ⟨x, hDe, hxc, hxo⟩ := ext_push hx R.has RD.has hn RD.ones
          have := hall x hxc hxo D.h
          rw [← hDe] at this
          exact this hi
        refine wp_mono (ih (l + 1) _ _ ρ D a w RD hsay) ?_
        rintro e a w ⟨ρ, st', D', hx', R', hs'⟩
        cases e with
        | normal =>
          simp only at hs'
          split at hs'
          · rename_i g' hg'
            split at hs'
            · exact hs'.elim
            · rename_i hck'
              simp only [Bool.not_eq_true, Bool.not_eq_false', Bool.and_eq_true, decide_eq_true_eq] at hck'
              obtain ⟨hinv', hmeas⟩ := hs'
              have e1 : D'.cut st.n = C.heap D'.h := cut_ext (hx.trans hx') R.has
              have e2 : D'.cut (headSt (A l) st).n = D.heap D'.h := cut_ext hx' RD.has
              rw [e1, e2] at hmeas
              rw [e1] at hinv'
              have hB' : Base st.n C D' := ⟨hx.trans hx', R.has⟩
              have R2 := match_rep R' hB' R.ones hg' hck'.1 hck'.2
              exact ⟨_, hmeas, ρ, _, gotCtx_ext _ _ _, R2, hinv', rfl⟩
          · exact hs'.elim
        | exit id => exact ⟨ρ, st', D', hx.trans hx', R', hs'⟩
        | goto l => exact ⟨ρ, st', D', hx.trans hx', R', hs'⟩
        | ret => exact ⟨ρ, st', D', hx.trans hx', R', hs'⟩
        | panic ch => exact ⟨ρ, st', D', hx.trans hx', R', hs'⟩
        | outgrown => exact ⟨ρ, st', D', hx.trans hx', R', hs'⟩
    · exact hs.elim
  | exit id => intro l st K ρ C a w R hs; exact wp_exit ⟨ρ, st, C, Ext.refl C, R, hs⟩
  | ret => intro l st K ρ C a w R hs; exact wp_ret ⟨ρ, st, C, Ext.refl C, R, hs⟩
  | rangeFunc f p x y _ _ => intro l st K ρ C a w R hs; exact (hs : False).elim
  | scope c _ => intro l st K ρ C a w R hs; exact (hs : False).elim
  | label m => intro l st K ρ C a w R hs; exact (hs : False).elim
  | goto m => intro l st K ρ C a w R hs; exact (hs : False).elim
  | refuse s => intro l st K ρ C a w R hs; exact (hs : False).elim
end
end Go.Proofs.YtbgigkfdenkfiaaDoor
