/- The engine, part C: a frame and a world that a symbolic state stands for; operands, guards, slots that are written. -/
import Derived.Test.YtcfopechdlgioaaGreatDoorEngB
namespace Go.Proofs.YtcfopechdlgioaaGreatDoor
open Go.RowKit

/-- A block that is not written. -/
def Un (h : Hp) (k : Nat) : Prop := ∀ o, h k = some o → o.ty = 1000003
theorem Un.none {h : Hp} {k : Nat} (hn : h k = .none) : Un h k := fun o ho => by rw [hn] at ho; cases ho
theorem Un.set {h : Hp} {k b : Nat} {o : HO} (hb : k ≠ b) (hn : Un h k) : Un (h.set b o) k := fun x hx => hn x (by simp only [Hp.set, if_neg hb] at hx; exact hx)
theorem Un.ne {h : Hp} {k b : Nat} {o : HO} (hn : Un h k) (hb : h b = some o) (hT : o.ty < 1000000) : k ≠ b := fun e => by rw [hn o (by rw [e]; exact hb)] at hT; exact absurd hT (by decide)
/-- Below block B only what was known may have turned; what is known now was known, or is new. -/
structure Fr (B : Nat) (h0 h : Hp) (w0 w : World) : Prop where
  os : w.os = w0.os
  tape : w.tape = w0.tape
  output : w.output = w0.output
  size : w0.heap.size ≤ w.heap.size
  block : ∀ k, k < B → Un h0 k → w.heap[k]? = w0.heap[k]?
  ghost : ∀ k, k < B → h0 k = none → h k = none
  un : ∀ k, k < B → Un h0 k → Un h k
theorem Fr.refl (B : Nat) (h : Hp) (w : World) : Fr B h h w w := ⟨rfl, rfl, rfl, Nat.le_refl _, fun _ _ _ => rfl, fun _ _ h => h, fun _ _ h => h⟩
theorem Fr.trans {B : Nat} {h0 h k : Hp} {w0 w u : World} (a : Fr B h0 h w0 w) (b : Fr w.heap.size h k w u) (hB : B ≤ w.heap.size) : Fr B h0 k w0 u :=
  ⟨b.os.trans a.os, b.tape.trans a.tape, b.output.trans a.output, Nat.le_trans a.size b.size, fun i hi h0 => (b.block i (by omega) (a.un i hi h0)).trans (a.block i hi h0), fun i hi h0 => b.ghost i (by omega) (a.ghost i hi h0), fun i hi h0 => b.un i (by omega) (a.un i hi h0)⟩
/-- A map's entry; a map that is known holds these. -/
abbrev Ent := List UInt8 × Value × Nat
def Ent.v (e : Ent) : Value := .agg #[.string (B e.1), e.2.1, .int .i64 e.2.2]
def Ent.m (e : Ent) : MapEntry := ⟨.string (B e.1), e.2.1, e.2.2⟩
theorem B_inj {a b : List UInt8} : (B a = B b) = (a = b) := by
  apply propext
  constructor
  · intro h
    have := congrArg ByteArray.toList h
    rwa [B_toList, B_toList] at this
  · rintro rfl; rfl
theorem ents_inj : ∀ {es fs : List Ent}, es.map Ent.v = fs.map Ent.v → es = fs
  | [], [], _ => rfl
  | [], _ :: _, h => by cases h
  | _ :: _, [], h => by cases h
  | e :: es, f :: fs, h => by
    rw [List.map_cons, List.map_cons] at h
    injection h with h1 h2
    rw [ents_inj h2]
    obtain ⟨a, b, c⟩ := e
    obtain ⟨a', b', c'⟩ := f
    simp only [Ent.v, Value.agg.injEq, Array.mk.injEq, List.cons.injEq, Value.string.injEq, Value.int.injEq, and_true, true_and] at h1
    obtain ⟨h1, rfl, h3⟩ := h1
    rw [B_inj.mp h1, Int.ofNat.inj h3]
/-- No struct. -/
def NoAgg (u : Value) : Prop := ∀ l, u ≠ .agg l
theorem one_noAgg {u : Value} (h : u.oneCell' = true) : NoAgg u := fun l e => by rw [e] at h; cases h
/-- A map that is known, as cells. -/
def encM (es : List Ent) : List Value := .agg #[] :: es.map Ent.v
theorem encM_agg (es : List Ent) : ∀ u ∈ encM es, ¬ NoAgg u := by
  intro u hu h
  rcases List.mem_cons.1 hu with rfl | hu
  · exact h _ rfl
  · obtain ⟨e, _, rfl⟩ := List.mem_map.1 hu
    exact h _ rfl
/-- What is known is so. -/
def HoldsAt (o : HO) (x : Option Obj) : Prop :=
  (∃ T fz, x = some (.cells o.cs.toArray T fz) ∧ (o.ty < 1000000 → T = o.ty ∧ fz = (0, 0)) ∧ (o.ty = 1000004 → ∀ u ∈ o.cs, NoAgg u)) ∨
  (o.ty = 1000004 ∧ ∃ (es : List Ent) (clock : Nat), o.cs = encM es ∧ x = some (.map (es.map Ent.m).toArray clock) ∧ ∀ e ∈ es, e.2.2 < clock)
theorem HoldsAt.of {o : HO} {x : Option Obj} (h : x = some (.cells o.cs.toArray o.ty (0, 0))) (hT : o.ty < 1000000 ∨ ∀ u ∈ o.cs, NoAgg u := by first | exact .inl (by assumption) | exact .inl (by decide)) : HoldsAt o x :=
  .inl ⟨_, _, h, fun _ => ⟨rfl, rfl⟩, fun e => hT.elim (fun h => absurd h (by rw [e]; decide)) id⟩
theorem HoldsAt.rw {o : HO} {x : Option Obj} (h : HoldsAt o x) (hT : o.ty < 1000000) : x = some (.cells o.cs.toArray o.ty (0, 0)) := by
  rcases h with ⟨T, fz, rfl, h2, _⟩ | ⟨h, _⟩
  · obtain ⟨rfl, rfl⟩ := h2 hT
    rfl
  · rw [h] at hT; exact absurd hT (by decide)
/-- Where one cell is no struct, it is no map. -/
theorem HoldsAt.cells {o : HO} {x : Option Obj} (h : HoldsAt o x) {u : Value} (hu : u ∈ o.cs) (h1 : NoAgg u) : ∃ T fz, x = some (.cells o.cs.toArray T fz) := by
  rcases h with ⟨T, fz, h, _⟩ | ⟨_, es, _, he, _⟩
  · exact ⟨T, fz, h⟩
  · rw [he] at hu
    exact absurd h1 (encM_agg es u hu)
theorem HoldsAt.map {es : List Ent} {x : Option Obj} (h : HoldsAt ⟨encM es, 1000004⟩ x) : ∃ clock, x = some (.map (es.map Ent.m).toArray clock) ∧ ∀ e ∈ es, e.2.2 < clock := by
  rcases h with ⟨T, fz, _, _, h⟩ | ⟨_, fs, k, h1, h2, h3⟩
  · exact absurd (h rfl (.agg #[]) (by simp [encM])) (encM_agg es _ (by simp [encM]))
  · have : es = fs := ents_inj (List.cons.inj h1).2
    subst this
    exact ⟨k, h2, h3⟩
theorem HoldsAt.some {o : HO} {x : Option Obj} (h : HoldsAt o x) : ∃ y, x = some y := by
  rcases h with ⟨T, fz, h, _⟩ | ⟨_, es, k, _, h, _⟩
  · exact ⟨_, h⟩
  · exact ⟨_, h⟩
def Holds (h : Hp) (w : World) : Prop := ∀ b o, h b = some o → HoldsAt o w.heap[b]?
theorem Holds.lt {h : Hp} {w : World} (H : Holds h w) {b : Nat} (hb : h b ≠ none) : b < w.heap.size := by
  cases e : h b with
  | none => exact absurd e hb
  | some o =>
    obtain ⟨y, h1⟩ := (H b o e).some
    exact (Array.getElem?_eq_some_iff.1 h1).1
theorem Holds.below {h : Hp} {w u : World} (H : Holds h w) (k : Below w.heap.size w u) : Holds h u := fun b o hb => by
  rw [k.block b (H.lt (by rw [hb]; simp))]
  exact H b o hb
theorem Fr.of_below {h : Hp} {w u : World} (k : Below w.heap.size w u) : Fr w.heap.size h h w u := ⟨k.os, k.tape, k.output, k.size, fun i hi _ => k.block i hi, fun _ _ h => h, fun _ _ h => h⟩
structure Rep (B : Nat) (h0 : Hp) (w0 : World) (ρ : Nat → Nat) (st : St) (C : Ctx) (a : Act) (w : World) : Prop where
  defers : a.defers = []
  size : a.tmps.size = st.t.length
  slots : ∀ (i : Nat) (v : VE), st.t[i]? = some v → v.holds C ρ a.tmps (a.tmps.getD i undef)
  blocks : ∀ (k : Nat) (b : Blk), st.m[k]? = some b → w.heap[ρ k]? = some (.cells (b.cells.map (CE.den C ρ)).toArray b.ty (0, 0))
  fresh : ∀ k, k < st.m.length → B ≤ ρ k ∨ ¬ Un h0 (ρ k)
  inj : ∀ k j, k < st.m.length → j < st.m.length → ρ k = ρ j → k = j
  free : ∀ k, k < st.m.length → C.h (ρ k) = none
  holds : Holds C.h w
  fr : Fr B h0 C.h w0 w
  base : B ≤ w.heap.size
  ci : C.i.length = st.n.i
  cb : C.b.length = st.n.b
  cs : C.s.length = st.n.s
  cv : C.v.length = st.n.v
  cl : C.l.length = st.n.l
  cp : C.p.length = st.n.p
  ones : Ones C.v

/-- These slots hold these truth values. -/
def Conds (gs : Gs) (t : Array Value) : Prop := ∀ g ∈ gs, t.getD g.1 undef = .bool g.2
theorem conds_nil (t : Array Value) : Conds [] t := fun _ h => by cases h
theorem conds_app {g h : Gs} {t : Array Value} : Conds (g ++ h) t ↔ Conds g t ∧ Conds h t := by
  unfold Conds
  constructor
  · exact fun H => ⟨fun x hx => H x (List.mem_append_left _ hx), fun x hx => H x (List.mem_append_right _ hx)⟩
  · rintro ⟨h1, h2⟩ x hx
    rcases List.mem_append.1 hx with hx | hx
    · exact h1 x hx
    · exact h2 x hx
theorem conds_one {s : Nat} {w : Bool} {t : Array Value} : Conds [(s, w)] t ↔ t.getD s undef = .bool w := by
  unfold Conds; simp

theorem ce_cells {C : Ctx} (ho : Ones C.v) (ρ : Nat → Nat) (c : CE) : (c.den C ρ).cells = #[c.den C ρ] := by
  cases c with
  | v n =>
    show (C.v.getD n undef).cells = #[C.v.getD n undef]
    rw [List.getD_eq_getElem?_getD]
    cases h : C.v[n]? with
    | none => rfl
    | some u =>
      have hu := ho u (List.mem_of_getElem? h)
      show u.cells = #[u]
      cases u <;> first | rfl | cases hu
  | c k => cases k <;> rfl
  | adr x =>
    show (adrVal (x.den C)).cells = #[adrVal (x.den C)]
    cases x.den C <;> rfl
  | _ => rfl
theorem ce_one {C : Ctx} (ho : Ones C.v) (ρ : Nat → Nat) (c : CE) (N : Cnt) (hN : N.v = C.v.length) (hb : c.blw N = true) (hk : c ≠ .c .undef) (ha : c.isAdr = false) : (c.den C ρ).oneCell' = true := by
  cases c with
  | v n =>
    have hn : n < C.v.length := by simp only [CE.blw, decide_eq_true_eq] at hb; omega
    show (C.v.getD n undef).oneCell' = true
    rw [List.getD_eq_getElem?_getD, List.getElem?_eq_getElem hn]
    exact ho _ (List.getElem_mem hn)
  | c k => cases k <;> first | rfl | exact absurd rfl hk
  | adr x => cases ha
  | _ => rfl
theorem ce_noAgg {C : Ctx} (ho : Ones C.v) (ρ : Nat → Nat) (c : CE) : NoAgg (c.den C ρ) := by
  intro l e
  cases c with
  | v n =>
    have e' : C.v.getD n undef = .agg l := e
    rw [List.getD_eq_getElem?_getD] at e'
    cases h : C.v[n]? with
    | none => rw [h] at e'; cases e'
    | some u =>
      rw [h] at e'
      exact one_noAgg (ho u (List.mem_of_getElem? h)) l e'
  | c k => cases k <;> cases e
  | adr x =>
    have e' : adrVal (x.den C) = .agg l := e
    cases hx : x.den C <;> rw [hx] at e' <;> cases e'
  | _ => cases e
theorem ces_noAgg {C : Ctx} (ho : Ones C.v) (ρ : Nat → Nat) (cs : List CE) : ∀ u ∈ cs.map (CE.den C ρ), NoAgg u := fun u hu => by
  obtain ⟨c, _, rfl⟩ := List.mem_map.1 hu
  exact ce_noAgg ho ρ c
theorem pe_cells {C : Ctx} (ho : Ones C.v) (ρ : Nat → Nat) (p : PE) : (p.den C ρ).cells = (p.cells.map (CE.den C ρ)).toArray := by
  cases p with
  | one c => exact ce_cells ho ρ c
  | agg l => rfl
theorem toNat_ofNat_list (l : List UInt8) : (l.map UInt8.toNat).map UInt8.ofNat = l := by
  induction l with
  | nil => rfl
  | cons x l ih => simp only [List.map_cons, ih]; simp
theorem kvOf_val {v : Value} {k : KV} (h : kvOf v = some k) : k.val = v := by
  unfold kvOf at h
  split at h <;> cases h <;> rfl
theorem ceOf_den {v : Value} {e : CE} (C : Ctx) (ρ : Nat → Nat) (h : ceOf v = some e) : e.den C ρ = v := by
  unfold ceOf at h
  split at h
  · cases h; rfl
  · cases h; rfl
  · rename_i s
    cases h
    show Value.string (B _) = _
    congr 1
    show B ((s.data.toList.map UInt8.toNat).map UInt8.ofNat) = s
    rw [toNat_ofNat_list]
    exact (string_B s).symm
  · cases h; rfl
  · simp only [Option.map_eq_some_iff] at h
    obtain ⟨k, hk, rfl⟩ := h
    exact kvOf_val hk
theorem cesOf_den {vs : List Value} : ∀ {es : List CE} (C : Ctx) (ρ : Nat → Nat), cesOf vs = some es → es.map (CE.den C ρ) = vs := by
  induction vs with
  | nil => intro es C ρ h; cases h; rfl
  | cons v vs ih =>
    intro es C ρ h
    rw [cesOf] at h
    split at h
    · rename_i x xs hx hxs
      cases h
      rw [List.map_cons, ceOf_den C ρ hx, ih C ρ hxs]
    · cases h
theorem peOf_den {v : Value} {p : PE} (C : Ctx) (ρ : Nat → Nat) (h : peOf v = some p) : p.den C ρ = v := by
  unfold peOf at h
  split at h
  · rename_i cs
    simp only [Option.map_eq_some_iff] at h
    obtain ⟨es, he, rfl⟩ := h
    show Value.agg (es.map (CE.den C ρ)).toArray = _
    rw [cesOf_den C ρ he]
  · simp only [Option.map_eq_some_iff] at h
    obtain ⟨e, he, rfl⟩ := h
    exact ceOf_den C ρ he
theorem ceOf_plain {v : Value} {e : CE} (h : ceOf v = some e) : e.plain = true := by
  unfold ceOf at h
  split at h <;> first | (cases h; rfl) | (simp only [Option.map_eq_some_iff] at h; obtain ⟨k, hk, rfl⟩ := h; rfl)

section
variable {B : Nat} {h0 : Hp} {w0 : World} {ρ : Nat → Nat} {st : St} {C : Ctx} {a : Act} {w : World}

theorem opd_eval (R : Rep B h0 w0 ρ st C a w) {gs : Gs} (hg : Conds gs a.tmps) {x : Operand} {p : PE} (h : opd st gs x = some p) : a.eval x = p.den C ρ := by
  cases x with
  | tmp t =>
    simp only [opd] at h
    have hs := R.slots t
    show a.tmps.getD t undef = _
    split at h
    · rename_i y hy
      cases h
      exact hs _ hy
    · rename_i hs' y hy
      split at h
      · rename_i hall
        cases h
        refine (hs _ hy).1 (fun g hgm => ?_)
        have := List.all_eq_true.1 hall g hgm
        exact hg g (by simpa using this)
      · cases h
    · cases h
  | const v => exact (peOf_den C ρ h).symm
  | global g => cases h; rfl
  | func f => cases h; rfl
theorem adrOf_den {p : PE} {ad : AE} (h : adrOf p = some ad) {C : Ctx} {ρ : Nat → Nat} {q : Nat × Nat} (hq : ad.den C = some q) : p.den C ρ = .pointer (some ⟨q.1, q.2, none⟩) := by
  unfold adrOf at h
  split at h
  · cases h
    show adrVal (ad.den C) = _
    rw [hq]; rfl
  · rename_i n
    cases h
    have hq' : (C.p.getD n none).map (fun x => (x.1, x.2 + 0)) = some q := hq
    show Value.pointer ((C.p.getD n none).map fun x => ⟨x.1, x.2, none⟩) = _
    cases hp : C.p.getD n none with
    | none => rw [hp] at hq'; cases hq'
    | some y =>
      rw [hp] at hq'
      cases hq'
      rfl
  · cases h
theorem adr_eval (R : Rep B h0 w0 ρ st C a w) {gs : Gs} (hg : Conds gs a.tmps) {x : Operand} {ad : AE} (h : (opd st gs x).bind adrOf = some ad) {q : Nat × Nat} (hq : ad.den C = some q) : a.eval x = .pointer (some ⟨q.1, q.2, none⟩) := by
  simp only [Option.bind_eq_some_iff] at h
  obtain ⟨p, hp, ha⟩ := h
  rw [opd_eval R hg hp]
  exact adrOf_den ha hq
theorem opds_eval (R : Rep B h0 w0 ρ st C a w) {gs : Gs} (hg : Conds gs a.tmps) {xs : List Operand} : ∀ {ps : List PE}, opds st gs xs = some ps → xs.map a.eval = ps.map (PE.den C ρ) := by
  induction xs with
  | nil => intro ps h; cases h; rfl
  | cons x xs ih =>
    intro ps h
    rw [opds] at h
    split at h
    · rename_i p ps hp hps
      cases h
      rw [List.map_cons, List.map_cons, opd_eval R hg hp, ih hps]
    · cases h
theorem slotB_eval (R : Rep B h0 w0 ρ st C a w) {gs : Gs} (hg : Conds gs a.tmps) {s : Nat} {e : BE} (h : slotB st gs s = some e) : a.tmps.getD s undef = .bool (e.den C) := by
  unfold slotB at h
  split at h
  · rename_i e' he
    cases h
    exact opd_eval R hg he
  · cases h

theorem mkNot_den (e : BE) : (mkNot e).den C = !e.den C := by
  unfold mkNot; split <;> simp [BE.den]
theorem mkAnd_den (e f : BE) : (mkAnd e f).den C = (e.den C && f.den C) := by
  unfold mkAnd; split <;> simp [BE.den]
theorem mkOr_den (e f : BE) : (mkOr e f).den C = (e.den C || f.den C) := by
  unfold mkOr; split <;> simp [BE.den]
theorem lit_den (e : BE) (x : Bool) : (lit e x).den C = true ↔ e.den C = x := by
  unfold lit
  cases x
  · simp [mkNot_den]
  · simp
theorem mkIte_den (b p q : BE) : (mkIte b p q).den C = bif b.den C then p.den C else q.den C := by
  unfold mkIte
  split
  · rename_i h; subst h; cases b.den C <;> rfl
  · split
    · simp [BE.den]
    · simp [BE.den, mkNot_den]
    · simp [BE.den, mkOr_den]
    · simp [BE.den, mkAnd_den]
    · rfl
theorem phiC_den {e : BE} {x y z : CE} (h : phiC e x y = some z) : z.den C ρ = bif e.den C then x.den C ρ else y.den C ρ := by
  unfold phiC at h
  split at h
  · split at h
    · rename_i hk
      subst hk
      cases h
      split
      · rename_i hpq; subst hpq; cases e.den C <;> rfl
      · simp only [CE.den, IE.den]; cases e.den C <;> rfl
    · cases h
  · cases h
    simp only [CE.den, mkIte_den]; cases e.den C <;> rfl
  · cases h
    split
    · rename_i hpq; subst hpq; cases e.den C <;> rfl
    · simp only [CE.den, SE.den]; cases e.den C <;> rfl
  · split at h
    · rename_i hpq; cases h; subst hpq; cases e.den C <;> rfl
    · cases h
theorem phiL_den {e : BE} : ∀ {x y z : List CE}, phiL e x y = some z → z.map (CE.den C ρ) = bif e.den C then x.map (CE.den C ρ) else y.map (CE.den C ρ) := by
  intro x
  induction x with
  | nil =>
    intro y z h
    cases y with
    | nil => cases h; cases e.den C <;> rfl
    | cons _ _ => cases h
  | cons p ps ih =>
    intro y z h
    cases y with
    | nil => cases h
    | cons q qs =>
      rw [phiL] at h
      split at h
      · rename_i u us hu hus
        cases h
        have h1 := phiC_den (C := C) (ρ := ρ) hu
        have h2 := ih hus
        rw [List.map_cons, h1, h2]
        cases e.den C <;> rfl
      · cases h
theorem phi_den {e : BE} {x y z : PE} (h : phi e x y = some z) : z.den C ρ = bif e.den C then x.den C ρ else y.den C ρ := by
  unfold phi at h
  split at h
  · simp only [Option.map_eq_some_iff] at h
    obtain ⟨u, hu, rfl⟩ := h
    exact phiC_den hu
  · simp only [Option.map_eq_some_iff] at h
    obtain ⟨u, hu, rfl⟩ := h
    have := phiL_den (C := C) (ρ := ρ) hu
    simp only [PE.den, this]
    cases e.den C <;> rfl
  · cases h

theorem gexpr_iff (R : Rep B h0 w0 ρ st C a w) : ∀ (l pre : Gs) (g : BE), Conds pre a.tmps → gexpr st pre l = some g → (g.den C = true ↔ Conds l a.tmps) := by
  intro l
  induction l with
  | nil => intro pre g _ h; cases h; simp [BE.den, conds_nil]
  | cons x r ih =>
    obtain ⟨s, v⟩ := x
    intro pre g hp h
    rw [gexpr] at h
    split at h
    · rename_i e g' he hg'
      cases h
      rw [mkAnd_den, Bool.and_eq_true, lit_den, show (s, v) :: r = [(s, v)] ++ r from rfl, conds_app, conds_one, slotB_eval R hp he]
      constructor
      · rintro ⟨h1, h2⟩
        have hc : Conds [(s, v)] a.tmps := by rw [conds_one, slotB_eval R hp he, h1]
        exact ⟨by rw [h1], (ih _ _ (conds_app.2 ⟨hp, hc⟩) hg').1 h2⟩
      · rintro ⟨h1, h2⟩
        have h1' : e.den C = v := by injection h1
        have hc : Conds [(s, v)] a.tmps := by rw [conds_one, slotB_eval R hp he, h1']
        exact ⟨h1', (ih _ _ (conds_app.2 ⟨hp, hc⟩) hg').2 h2⟩
    · cases h

theorem getD_some {t : Array Value} {s : Nat} {v : Value} (h : t.getD s undef = v) (hv : v ≠ undef) : t[s]? = some v := by
  rw [Array.getD_eq_getD_getElem?] at h
  cases e : t[s]? with
  | none => rw [e] at h; exact absurd h.symm hv
  | some u => rw [e] at h; rw [← h]; rfl
theorem yielded_of {ops : Array Oper} {t : Array Value} {j s : Nat} (hs : (ops[j]?).bind (·.dst) = some s) {b : Bool} (h : t.getD s undef = .bool b) : yielded ops t j = some b := by
  unfold yielded
  rw [hs]
  show (match t[s]? with | some (.bool b) => some b | _ => none) = _
  rw [getD_some h (by simp [undef])]
theorem yielded_undef {ops : Array Oper} {t : Array Value} {j s : Nat} (hs : (ops[j]?).bind (·.dst) = some s) (h : t.getD s undef = undef) : yielded ops t j = none := by
  unfold yielded
  rw [hs]
  show (match t[s]? with | some (.bool b) => some b | _ => none) = _
  rw [Array.getD_eq_getD_getElem?] at h
  cases e : t[s]? with
  | none => rfl
  | some u => rw [e] at h; have : u = undef := h; rw [this]; rfl
theorem guard_wanted (R : Rep B h0 w0 ρ st C a w) {ops : Array Oper} {o : Oper} {gs : Gs} (h : guardOf st ops o = some gs) : Region.wanted o (yielded ops a.tmps) = true ↔ Conds gs a.tmps := by
  unfold guardOf at h
  unfold Region.wanted
  cases hgu : o.guard with
  | none => rw [hgu] at h; cases h; simp [conds_nil]
  | some jw =>
    obtain ⟨j, want⟩ := jw
    rw [hgu] at h
    simp only at h ⊢
    split at h
    · rename_i s hs
      split at h
      · rename_i e he
        cases h
        have hv := R.slots s _ he
        simp only [VE.holds, PE.den, CE.den] at hv
        rw [yielded_of hs hv, conds_one, hv]
        simp
      · rename_i hs' e he
        cases h
        have hv := R.slots s _ he
        simp only [VE.holds, PE.den, CE.den] at hv
        rw [conds_app, conds_one]
        by_cases hc : Conds hs' a.tmps
        · have := hv.1 hc
          rw [yielded_of hs this, this]
          simp [hc]
        · have := hv.2 hc
          rw [yielded_undef hs this]
          simp [hc]
      · cases h
    · cases h

/-! ### A slot is written -/
theorem getD_set_ne {t : Array Value} {d i : Nat} {u : Value} (h : d ≠ i) : (t.setIfInBounds d u).getD i undef = t.getD i undef := by
  simp only [Array.getD_eq_getD_getElem?, Array.getElem?_setIfInBounds_ne h]
theorem getD_set_eq {t : Array Value} {d : Nat} {u : Value} (h : d < t.size) : (t.setIfInBounds d u).getD d undef = u := by
  simp [Array.getD_eq_getD_getElem?, h]
theorem holds_put {v : VE} {d : Nat} {t : Array Value} {u x : Value} (hn : v.names d = false) (h : v.holds C ρ t u) : v.holds C ρ (t.setIfInBounds d x) u := by
  cases v with
  | dead => trivial
  | p _ => exact h
  | tup _ => exact h
  | wg gs y =>
    have e : (∀ g ∈ gs, (t.setIfInBounds d x).getD g.1 undef = .bool g.2) ↔ (∀ g ∈ gs, t.getD g.1 undef = .bool g.2) := by
      refine forall_congr' fun g => ?_
      refine forall_congr' fun hg => ?_
      have hne : d ≠ g.1 := by
        intro hd
        simp only [VE.names, List.any_eq_false] at hn
        exact absurd (by simp [hd]) (hn g hg)
      rw [getD_set_ne hne]
    exact ⟨fun hc => h.1 (e.1 hc), fun hc => h.2 (fun k => hc (e.2 k))⟩
theorem rep_put (R : Rep B h0 w0 ρ st C a w) (d : Nat) (v : VE) (u : Value) (h : v.names d = false → v.holds C ρ a.tmps u) : Rep B h0 w0 ρ (st.put d v) C (a.put (some d) u) w := by
  have hsz := R.size
  refine ⟨R.defers, by simp [St.put, Act.put, hsz], ?_, R.blocks, R.fresh, R.inj, R.free, R.holds, R.fr, R.base, R.ci, R.cb, R.cs, R.cv, R.cl, R.cp, R.ones⟩
  intro i v' hi
  simp only [St.put, Act.put] at hi ⊢
  by_cases hd : d = i
  · subst hd
    rw [List.getElem?_set_self'] at hi
    cases hh : (st.t.map fun u => if u.names d then VE.dead else u)[d]? with
    | none => rw [hh] at hi; cases hi
    | some y =>
      rw [hh] at hi
      have hlt : d < a.tmps.size := by
        rw [hsz]
        have := (List.getElem?_eq_some_iff.1 hh).1
        simpa using this
      have hv : (if v.names d = true then VE.dead else v) = v' := by simpa using hi
      rw [getD_set_eq hlt, ← hv]
      split
      · trivial
      · rename_i hn
        have hn' : v.names d = false := by simpa using hn
        exact holds_put hn' (h hn')
  · rw [List.getElem?_set_ne hd, List.getElem?_map] at hi
    cases hh : st.t[i]? with
    | none => rw [hh] at hi; cases hi
    | some y =>
      rw [hh] at hi
      have hv : (if y.names d = true then VE.dead else y) = v' := by simpa using hi
      rw [getD_set_ne hd, ← hv]
      split
      · trivial
      · rename_i hn
        exact holds_put (by simpa using hn) (R.slots i y hh)
theorem rep_putO (R : Rep B h0 w0 ρ st C a w) (d : Option Nat) (v : VE) (u : Value) (h : v.holds C ρ a.tmps u) : Rep B h0 w0 ρ (st.putO d v) C (a.put d u) w := by
  cases d with
  | none => exact R
  | some d => exact rep_put R d v u (fun _ => h)
theorem wrap_yes {gs : Gs} {v : PE} {t : Array Value} {u : Value} (hg : Conds gs t) (h : u = v.den C ρ) : (wrapG gs v).holds C ρ t u := by
  unfold wrapG
  split
  · exact h
  · exact ⟨fun _ => h, fun hc => absurd hg hc⟩
theorem wrap_no {gs : Gs} {v : PE} {t : Array Value} (hg : ¬ Conds gs t) : (wrapG gs v).holds C ρ t undef := by
  unfold wrapG
  split
  · rename_i h; subst h; exact absurd (conds_nil t) hg
  · exact ⟨fun hc => absurd hc hg, fun _ => rfl⟩
end
end Go.Proofs.YtcfopechdlgioaaGreatDoor
