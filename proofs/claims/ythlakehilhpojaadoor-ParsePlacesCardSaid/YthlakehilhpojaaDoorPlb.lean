/- hindcastlaw06: texts joined: EngS, EngT, EngF, EngG, EngU, LexB, LexC, LexD, LexE, LexF, LexG, LexH, Shelf, LexI, LexJ. -/
import Derived.Test.YthlakehilhpojaaDoorPla
namespace Go.Proofs.YthlakehilhpojaaDoor
open Go.RowKit

section
variable {P : Program} {E : Env} {B : Nat} {h0 : Hp} {w0 : World} {ρ : Nat → Nat} {st : St} {C : Ctx} {a : Act} {w : World}

theorem Cnt.le_trans {a b c : Cnt} (h : a.le b = true) (k : b.le c = true) : a.le c = true := by
  simp only [Cnt.le, Bool.and_eq_true, decide_eq_true_eq] at *
  omega
theorem Cnt.le_refl (a : Cnt) : a.le a = true := by simp [Cnt.le]
theorem agr_le {N M : Cnt} {C D : Ctx} (h : Agr M C D) (hl : N.le M = true) : Agr N C D := by
  simp only [Cnt.le, Bool.and_eq_true, decide_eq_true_eq] at hl
  exact ⟨fun n hn => h.i n (by omega), fun n hn => h.b n (by omega), fun n hn => h.s n (by omega), fun n hn => h.v n (by omega), fun n hn => h.l n (by omega), fun n hn => h.p n (by omega)⟩
mutual
theorem IE.blw_le {N M : Cnt} (h : N.le M = true) : ∀ e : IE, e.blw N = true → e.blw M = true
  | .x n, hb => by simp only [IE.blw, Cnt.le, Bool.and_eq_true, decide_eq_true_eq] at *; omega
  | .c _, _ => rfl
  | .add x y, hb => by simp only [IE.blw, Bool.and_eq_true] at *; exact ⟨x.blw_le h hb.1, y.blw_le h hb.2⟩
  | .sub x y, hb => by simp only [IE.blw, Bool.and_eq_true] at *; exact ⟨x.blw_le h hb.1, y.blw_le h hb.2⟩
  | .mul x y, hb => by simp only [IE.blw, Bool.and_eq_true] at *; exact ⟨x.blw_le h hb.1, y.blw_le h hb.2⟩
  | .wr _ x, hb => by simp only [IE.blw] at *; exact x.blw_le h hb
  | .quo x y, hb => by simp only [IE.blw, Bool.and_eq_true] at *; exact ⟨x.blw_le h hb.1, y.blw_le h hb.2⟩
  | .rem x y, hb => by simp only [IE.blw, Bool.and_eq_true] at *; exact ⟨x.blw_le h hb.1, y.blw_le h hb.2⟩
  | .bits _ _ x y, hb => by simp only [IE.blw, Bool.and_eq_true] at *; exact ⟨x.blw_le h hb.1, y.blw_le h hb.2⟩
  | .sh _ _ x y, hb => by simp only [IE.blw, Bool.and_eq_true] at *; exact ⟨x.blw_le h hb.1, y.blw_le h hb.2⟩
  | .len x, hb => by simp only [IE.blw] at *; exact x.blw_le h hb
  | .at x y, hb => by simp only [IE.blw, Bool.and_eq_true] at *; exact ⟨x.blw_le h hb.1, y.blw_le h hb.2⟩
  | .cnt x, hb => by simp only [IE.blw] at *; exact x.blw_le h hb
  | .cap x, hb => by simp only [IE.blw] at *; exact x.blw_le h hb
  | .ite x y z, hb => by simp only [IE.blw, Bool.and_eq_true] at *; exact ⟨⟨x.blw_le h hb.1.1, y.blw_le h hb.1.2⟩, z.blw_le h hb.2⟩
theorem BE.blw_le {N M : Cnt} (h : N.le M = true) : ∀ e : BE, e.blw N = true → e.blw M = true
  | .x n, hb => by simp only [BE.blw, Cnt.le, Bool.and_eq_true, decide_eq_true_eq] at *; omega
  | .c _, _ => rfl
  | .not x, hb => by simp only [BE.blw] at *; exact x.blw_le h hb
  | .and x y, hb => by simp only [BE.blw, Bool.and_eq_true] at *; exact ⟨x.blw_le h hb.1, y.blw_le h hb.2⟩
  | .or x y, hb => by simp only [BE.blw, Bool.and_eq_true] at *; exact ⟨x.blw_le h hb.1, y.blw_le h hb.2⟩
  | .imp x y, hb => by simp only [BE.blw, Bool.and_eq_true] at *; exact ⟨x.blw_le h hb.1, y.blw_le h hb.2⟩
  | .eqI x y, hb => by simp only [BE.blw, Bool.and_eq_true] at *; exact ⟨x.blw_le h hb.1, y.blw_le h hb.2⟩
  | .lt x y, hb => by simp only [BE.blw, Bool.and_eq_true] at *; exact ⟨x.blw_le h hb.1, y.blw_le h hb.2⟩
  | .le x y, hb => by simp only [BE.blw, Bool.and_eq_true] at *; exact ⟨x.blw_le h hb.1, y.blw_le h hb.2⟩
  | .eqB x y, hb => by simp only [BE.blw, Bool.and_eq_true] at *; exact ⟨x.blw_le h hb.1, y.blw_le h hb.2⟩
  | .eqS x y, hb => by simp only [BE.blw, Bool.and_eq_true] at *; exact ⟨x.blw_le h hb.1, y.blw_le h hb.2⟩
  | .ltS x y, hb => by simp only [BE.blw, Bool.and_eq_true] at *; exact ⟨x.blw_le h hb.1, y.blw_le h hb.2⟩
  | .nns x, hb => by simp only [BE.blw] at *; exact x.blw_le h hb
  | .nnp n, hb => by simp only [BE.blw, Cnt.le, Bool.and_eq_true, decide_eq_true_eq] at *; omega
  | .ite x y z, hb => by simp only [BE.blw, Bool.and_eq_true] at *; exact ⟨⟨x.blw_le h hb.1.1, y.blw_le h hb.1.2⟩, z.blw_le h hb.2⟩
theorem SE.blw_le {N M : Cnt} (h : N.le M = true) : ∀ e : SE, e.blw N = true → e.blw M = true
  | .x n, hb => by simp only [SE.blw, Cnt.le, Bool.and_eq_true, decide_eq_true_eq] at *; omega
  | .c _, _ => rfl
  | .app x y, hb => by simp only [SE.blw, Bool.and_eq_true] at *; exact ⟨x.blw_le h hb.1, y.blw_le h hb.2⟩
  | .sub x y z, hb => by simp only [SE.blw, Bool.and_eq_true] at *; exact ⟨⟨x.blw_le h hb.1.1, y.blw_le h hb.1.2⟩, z.blw_le h hb.2⟩
  | .ite x y z, hb => by simp only [SE.blw, Bool.and_eq_true] at *; exact ⟨⟨x.blw_le h hb.1.1, y.blw_le h hb.1.2⟩, z.blw_le h hb.2⟩
theorem LE.blw_le {N M : Cnt} (h : N.le M = true) : ∀ e : LE, e.blw N = true → e.blw M = true
  | .x n, hb => by simp only [LE.blw, Cnt.le, Bool.and_eq_true, decide_eq_true_eq] at *; omega
  | .nil, _ => rfl
  | .sub x y z _, hb => by simp only [LE.blw, Bool.and_eq_true] at *; exact ⟨⟨x.blw_le h hb.1.1, y.blw_le h hb.1.2⟩, z.blw_le h hb.2⟩
end
theorem AE.blw_le {N M : Cnt} (h : N.le M = true) : ∀ e : AE, e.blw N = true → e.blw M = true
  | .pt n _, hb => by simp only [AE.blw, Cnt.le, Bool.and_eq_true, decide_eq_true_eq] at *; omega
  | .el l i _ _, hb => by simp only [AE.blw, Bool.and_eq_true] at *; exact ⟨l.blw_le h hb.1, i.blw_le h hb.2⟩
theorem CE.blw_le {N M : Cnt} (h : N.le M = true) (e : CE) (hb : e.blw N = true) : e.blw M = true := by
  cases e with
  | i _ e => exact IE.blw_le h e hb
  | b e => exact BE.blw_le h e hb
  | s e => exact SE.blw_le h e hb
  | own _ _ => rfl
  | osl _ _ => rfl
  | v n => simp only [CE.blw, Cnt.le, Bool.and_eq_true, decide_eq_true_eq] at *; omega
  | c _ => rfl
  | sl e => exact LE.blw_le h e hb
  | pt n => simp only [CE.blw, Cnt.le, Bool.and_eq_true, decide_eq_true_eq] at *; omega
  | adr e => exact AE.blw_le h e hb
  | clo f l => exact List.all_eq_true.2 fun n hn => by have := List.all_eq_true.1 hb n hn; simp only [Cnt.le, Bool.and_eq_true, decide_eq_true_eq] at *; omega
theorem PE.blw_le {N M : Cnt} (h : N.le M = true) (e : PE) (hb : e.blw N = true) : e.blw M = true :=
  List.all_eq_true.2 fun c hc => CE.blw_le h c (List.all_eq_true.1 hb c hc)
theorem VE.blw_le {N M : Cnt} (h : N.le M = true) (e : VE) (hb : e.blw N = true) : e.blw M = true := by
  cases e with
  | dead => rfl
  | p x => exact PE.blw_le h x hb
  | tup l => exact List.all_eq_true.2 fun c hc => PE.blw_le h c (List.all_eq_true.1 hb c hc)
  | wg gs x => exact PE.blw_le h x hb

/-- All that has been checked. -/
structure DrOk (nw : Cfg) (P : Program) (ops : Array Oper) (D : Dr) : Prop where
  tab : D.tab = preT ops.toList []
  down : ∀ i o, ops[i]? = some o → ∀ e ∈ direct o, e < i
  still : ∀ v ∈ D.st.t, v.still = true
  blw : D.st.blw = true
  n0 : D.st.n.le (D.n 0) = true
  nodup : D.calls.Nodup
  callsLt : ∀ c ∈ D.calls, c < D.L
  len : D.recs.length = D.L
  at' : ∀ i, i < D.L → D.okAt nw P ops i = true
  mono : ∀ k, k < D.calls.length → (D.n k).le (D.n (k + 1)) = true
  wr : ∀ t j, D.wr t = some j → (ops[j]?).bind (·.dst) = some t
  chain : ∀ s, s ≤ D.calls.length → chainOk s D.recs (D.start s) (D.n s) = true ∧ (D.start s).le (D.n s) = true
  Lle : D.L ≤ ops.size
  suf : ∀ i, D.L ≤ i → i < ops.size → ∀ j, j < i → j ∈ D.z ∨ j ∈ D.pre i
  wrLt : ∀ t j, D.wr t = some j → j < D.L
  alOk : ∀ i b, D.al = some (i, b) → D.sl = [] ∧ i < D.L ∧ D.st.okm = true ∧ ∀ (j : Nat) r, D.recs[j]? = some r → j = i ∨ i ∈ D.pre j ∨ r.ve.okm D.st.m.length = true
  slOk : ∀ x ∈ D.sl, x.1 < D.L
  slN : (D.sl.map (·.1)).Nodup
  slK : (D.sl.map (·.2.1)).Nodup
  znd : D.z.Nodup
  zOk : ∀ z ∈ D.z, z < D.L ∧ lazyOk ops z = true
  zSel : D.z = [] ∨ Region.noSelect ops = true
theorem drOk_of {nw : Cfg} {ops : Array Oper} {D : Dr} (h : D.ok nw P ops = true) : DrOk nw P ops D := by
  unfold Dr.ok at h
  simp only [Bool.and_eq_true, decide_eq_true_eq] at h
  obtain ⟨⟨⟨⟨⟨⟨⟨⟨⟨⟨⟨⟨⟨h1, h10⟩, h2⟩, h3⟩, h4⟩, h9⟩, h11⟩, h5⟩, h6⟩, h7⟩, h8⟩, h12⟩, ⟨⟨⟨⟨h13, h14⟩, h15⟩, h16⟩, ⟨⟨h17, h17a⟩, h17b⟩⟩⟩, ⟨⟨h18, h19⟩, h20⟩⟩ := h
  refine ⟨h1, fun i o ho e he => by
    have := List.all_eq_true.1 h10 (o, i) (by rw [List.mem_zipIdx_iff_getElem?]; simpa using ho)
    simpa using List.all_eq_true.1 this e he, fun v hv => List.all_eq_true.1 h2 v hv, h3, h4, h9, fun c hc => by simpa using List.all_eq_true.1 h11 c hc, h5, fun i hi => List.all_eq_true.1 h6 i (List.mem_range.2 hi), fun k hk => List.all_eq_true.1 h7 k (List.mem_range.2 hk), fun t j hj => ?_, fun s hs => by
      have := List.all_eq_true.1 h12 s (List.mem_range.2 (by omega))
      simpa [Bool.and_eq_true] using this, h13, fun i hi hlt j hj => ?_, fun t j hj => ?_, fun i b hal => ?_, fun x hx => by simpa using List.all_eq_true.1 h17 x hx, h17a, h17b, h18, fun z hz => by have := List.all_eq_true.1 h19 z hz; simpa [Bool.and_eq_true] using this, by simpa [Bool.or_eq_true, List.isEmpty_iff] using h20⟩
  · have hlt : t < D.W.length := by
      unfold Dr.wr at hj
      cases h : D.W[t]? with
      | none => rw [h] at hj; cases hj
      | some _ => exact (List.getElem?_eq_some_iff.1 h).1
    have := List.all_eq_true.1 h8 t (List.mem_range.2 hlt)
    rw [hj] at this
    simpa using this
  · have := List.all_eq_true.1 h14 i (List.mem_range.2 hlt)
    rcases Bool.or_eq_true _ _ ▸ this with h | h
    · have : i < D.L := by simpa using h
      omega
    · simpa [Bool.or_eq_true] using List.all_eq_true.1 h j (List.mem_range.2 hj)
  · have hlt : t < D.W.length := by
      unfold Dr.wr at hj
      cases h : D.W[t]? with
      | none => rw [h] at hj; cases hj
      | some _ => exact (List.getElem?_eq_some_iff.1 h).1
    have := List.all_eq_true.1 h15 t (List.mem_range.2 hlt)
    rw [hj] at this
    simpa using this
  · rw [hal] at h16
    simp only [Bool.and_eq_true, decide_eq_true_eq] at h16
    obtain ⟨⟨⟨k0, k1⟩, k2⟩, k3⟩ := h16
    refine ⟨List.isEmpty_iff.1 k0, k1, k2, fun j r hr => ?_⟩
    have := List.all_eq_true.1 k3 (r, j) (by rw [List.mem_zipIdx_iff_getElem?]; simpa using hr)
    simp only [Bool.or_eq_true, beq_iff_eq, List.contains_iff_mem] at this
    rcases this with (h | h) | h
    · exact .inl h
    · exact .inr (.inl h)
    · exact .inr (.inr h)
variable {nw : Cfg} {ops : Array Oper} {D : Dr}
theorem DrOk.le (H : DrOk nw P ops D) {k m : Nat} (hk : k ≤ m) (hm : m ≤ D.calls.length) : (D.n k).le (D.n m) = true := by
  induction m with
  | zero => obtain rfl : k = 0 := by omega
            exact Cnt.le_refl _
  | succ m ih =>
    by_cases e : k = m + 1
    · subst e; exact Cnt.le_refl _
    · exact Cnt.le_trans (ih (by omega) (by omega)) (H.mono m (by omega))
/-- What has been checked of one operation. -/
structure OpOk (nw : Cfg) (P : Program) (ops : Array Oper) (D : Dr) (i : Nat) (o : Oper) (r : Rec) : Prop where
  e : ∀ p : Nat → Bool, recE nw P ops o (D.stage i) (D.c i) (D.sees i (D.n (D.stage i)) (D.mem p)) = some r
  dst : ∀ d, o.dst = some d → D.wr d = some i
  gs : ∀ g ∈ r.gs, ∀ q, D.wr g.1 = some q → q ∈ D.pre i
  stage : D.stage i = 0 ∨ ∃ c, D.calls[D.stage i - 1]? = some c ∧ c ∈ D.pre i
  le : D.stage i ≤ D.calls.length
  irr : i ∉ D.pre i
  val : ∀ s gs g c v, r = .val s gs g c v → i ∉ D.calls ∧ s = D.stage i ∧ g.blw (D.n s) = true ∧ c.blw (D.n s) = true ∧ v.blw (D.n s) = true
  tup : ∀ l, r = .tup l → i ∉ D.calls ∧ l.all (PE.blw (D.n (D.stage i))) = true
  load : ∀ s n0 gs g a n x d, r = .load s n0 gs g a n x d → i ∉ D.calls ∧ s = D.stage i ∧ g.blw n0 = true ∧ a.blw n0 = true ∧ x.blw (n0.add d) = true ∧ (n0.add d).le (D.n s) = true ∧ n0.le (D.n s) = true
  new : ∀ k cs ty sl, r = .new k cs ty sl → D.al = some (i, ⟨cs, ty⟩) ∧ k = D.st.m.length ∧ i ∉ D.calls ∧ cs.all (CE.okm D.st.m.length) = true ∧ cs.all (CE.blw (D.n (D.stage i))) = true
  al : (∀ k cs ty sl, r ≠ .new k cs ty sl) → ∀ b, D.al ≠ some (i, b)
  sto : ∀ s k off cs, r = .sto s k off cs → s = D.stage i ∧ i ∉ D.calls ∧ ∃ b, D.st.m[k]? = some b ∧ off + cs.length ≤ b.cells.length ∧ (i, k, ⟨b.cells.take off ++ cs ++ b.cells.drop (off + cs.length), b.ty⟩) ∈ D.sl
  sl : (∀ s k off cs, r ≠ .sto s k off cs) → ∀ x ∈ D.sl, x.1 ≠ i
  call : ∀ k gs g f vas x d, r = .call k gs g f vas x d → k = D.stage i ∧ D.calls[k]? = some i ∧ g.blw (D.n k) = true ∧ x.blw (D.start (k + 1)) = true ∧ (k = 0 ∨ ∃ c, D.calls[k - 1]? = some c ∧ c ∈ D.pre i)
theorem filter_subs {α : Type} (p : α → Bool) : ∀ l : List α, l.filter p ∈ subs l
  | [] => by simp [subs]
  | x :: xs => by
    rw [subs, List.filter_cons]
    split
    · exact List.mem_append_right _ (List.mem_map.2 ⟨_, filter_subs p xs, rfl⟩)
    · exact List.mem_append_left _ (filter_subs p xs)
theorem setAll_mem {b : Blk} : ∀ {l : List (Nat × Nat × Blk)} {m : List Blk}, b ∈ setAll m l → b ∈ m ∨ ∃ x ∈ l, b = x.2.2
  | [], _, h => .inl h
  | x :: xs, m, h => by
    rcases setAll_mem (l := xs) (m := m.set x.2.1 x.2.2) h with h | ⟨y, hy, e⟩
    · rcases List.mem_or_eq_of_mem_set h with h | h
      · exact .inl h
      · exact .inr ⟨x, by simp, h⟩
    · exact .inr ⟨y, by simp [hy], e⟩
theorem setAll_len : ∀ (l : List (Nat × Nat × Blk)) (m : List Blk), (setAll m l).length = m.length
  | [], _ => rfl
  | x :: xs, m => by
    show (setAll (m.set x.2.1 x.2.2) xs).length = _
    rw [setAll_len xs, List.length_set]
theorem setAll_get {k : Nat} : ∀ {l : List (Nat × Nat × Blk)} {m : List Blk}, (∀ x ∈ l, x.2.1 ≠ k) → (setAll m l)[k]? = m[k]?
  | [], _, _ => rfl
  | x :: xs, m, h => by
    show (setAll (m.set x.2.1 x.2.2) xs)[k]? = _
    rw [setAll_get fun y hy => h y (by simp [hy]), List.getElem?_set_ne (h x (by simp))]
theorem setAll_comm {k : Nat} {b : Blk} : ∀ {l : List (Nat × Nat × Blk)} {m : List Blk}, (∀ x ∈ l, x.2.1 ≠ k) → setAll (m.set k b) l = (setAll m l).set k b
  | [], _, _ => rfl
  | x :: xs, m, h => by
    show setAll ((m.set k b).set x.2.1 x.2.2) xs = (setAll (m.set x.2.1 x.2.2) xs).set k b
    rw [List.set_comm _ _ (fun e => h x (by simp) e.symm), setAll_comm fun y hy => h y (by simp [hy])]
theorem setAll_step {i k : Nat} {b : Blk} {p q : Nat → Bool} (hq : q i = true) (hp : p i = false) (hne : ∀ j, j ≠ i → q j = p j) : ∀ {l : List (Nat × Nat × Blk)} {m : List Blk}, (i, k, b) ∈ l → (l.map (·.1)).Nodup → (l.map (·.2.1)).Nodup →
    setAll m (l.filter fun x => q x.1) = (setAll m (l.filter fun x => p x.1)).set k b
  | [], _, h, _, _ => by cases h
  | x :: xs, m, h, h1, h2 => by
    simp only [List.map_cons, List.nodup_cons] at h1 h2
    by_cases hx : x = (i, k, b)
    · subst hx
      have hno : ∀ y ∈ xs, y.1 ≠ i := fun y hy e => h1.1 (List.mem_map.2 ⟨y, hy, e⟩)
      have hf : (xs.filter fun x => q x.1) = xs.filter fun x => p x.1 := List.filter_congr fun y hy => hne y.1 (hno y hy)
      rw [List.filter_cons, List.filter_cons]
      simp only [hq, hp, hf, if_true, Bool.false_eq_true, if_false]
      show setAll (m.set k b) _ = _
      exact setAll_comm fun y hy e => h2.1 (List.mem_map.2 ⟨y, (List.mem_filter.1 hy).1, e⟩)
    · have hm : (i, k, b) ∈ xs := (List.mem_cons.1 h).resolve_left (fun e => hx e.symm)
      have hxi : x.1 ≠ i := fun e => h1.1 (List.mem_map.2 ⟨_, hm, e.symm⟩)
      rw [List.filter_cons, List.filter_cons, hne x.1 hxi]
      split
      · exact setAll_step hq hp hne (m := m.set x.2.1 x.2.2) hm h1.2 h2.2
      · exact setAll_step hq hp hne hm h1.2 h2.2
theorem DrOk.op (H : DrOk nw P ops D) {i : Nat} (hi : i < D.L) : ∃ o r, ops[i]? = some o ∧ D.recs[i]? = some r ∧ OpOk nw P ops D i o r := by
  have h := H.at' i hi
  unfold Dr.okAt at h
  split at h
  · rename_i o r ho hr
    simp only [Bool.and_eq_true, decide_eq_true_eq] at h
    obtain ⟨⟨⟨⟨⟨⟨⟨⟨h1, h2⟩, h3⟩, h4⟩, h5⟩, h6⟩, h7⟩, h8⟩, h9⟩ := h
    refine ⟨o, r, ho, hr, fun p => of_decide_eq_true (List.all_eq_true.1 h1 _ (filter_subs (fun x => p x.1) D.sl)), ?_, ?_, ?_, h6, by simpa using h7, ?_, ?_, ?_, ?_, ?_, ?_, ?_, ?_⟩
    · intro d hd; rw [hd] at h2; simpa using h2
    · intro g hg q hq
      have := List.all_eq_true.1 h3 g hg
      rw [hq] at this
      simpa using this
    · rcases Bool.or_eq_true _ _ ▸ h5 with h | h
      · exact .inl (by simpa using h)
      · right
        split at h
        · rename_i c hc; exact ⟨c, hc, by simpa using h⟩
        · cases h
    · rintro s gs g c v rfl
      simp only [Bool.and_eq_true, decide_eq_true_eq] at h4
      exact ⟨by simpa using h4.1.1.1.1, h4.1.1.1.2, h4.1.1.2, h4.1.2, h4.2⟩
    · rintro l rfl
      simp only [Bool.and_eq_true] at h4
      exact ⟨by simpa using h4.1, h4.2⟩
    · rintro s n0 gs g a n x d rfl
      simp only [Bool.and_eq_true, decide_eq_true_eq] at h4
      obtain ⟨⟨⟨⟨⟨⟨q1, q2⟩, q3⟩, q4⟩, q5⟩, q6⟩, q7⟩ := h4
      exact ⟨by simpa using q1, q2, q3, q4, q5, q6, q7⟩
    · rintro k cs ty sl rfl
      simp only [Bool.and_eq_true, decide_eq_true_eq] at h4
      obtain ⟨⟨⟨⟨q1, q2⟩, q3⟩, q4⟩, q5⟩ := h4
      exact ⟨q1, q2, by simpa using q3, q4, q5⟩
    · intro hne b hal
      split at h8
      · exact hne _ _ _ _ rfl
      · rw [decide_eq_true_eq] at h8
        exact h8 (by rw [hal]; rfl)
    · rintro s k off cs rfl
      simp only [Bool.and_eq_true, decide_eq_true_eq] at h4
      obtain ⟨⟨q1, q2⟩, q3⟩ := h4
      refine ⟨q1, by simpa using q2, ?_⟩
      split at q3
      · rename_i b hb
        simp only [Bool.and_eq_true, decide_eq_true_eq] at q3
        exact ⟨b, hb, q3.1, by simpa using q3.2⟩
      · cases q3
    · intro hne x hsl
      split at h9
      · exact absurd rfl (hne _ _ _ _)
      · simpa using List.all_eq_true.1 h9 x hsl
    · rintro k gs g f vas x d rfl
      simp only [Bool.and_eq_true, decide_eq_true_eq] at h4
      obtain ⟨⟨⟨⟨q1, q2⟩, q4⟩, q5⟩, q6⟩ := h4
      refine ⟨q1, q2, q4, q5, ?_⟩
      rcases Bool.or_eq_true _ _ ▸ q6 with h | h
      · exact .inl (by simpa using h)
      · right
        split at h
        · rename_i c hc; exact ⟨c, hc, by simpa using h⟩
        · cases h
  · cases h
/-- A stage begins: its looks are there. -/
theorem stage_enter {s : Nat} {e : Cnt} {k : Fm} : ∀ (rs : List Rec) (c : Cnt) (C : Ctx), Has C c → Ones C.v → chainOk s rs c e = true →
    (∀ n0 gs g a n x d, Rec.load s n0 gs g a n x d ∈ rs → g.blw n0 = true ∧ a.blw n0 = true ∧ x.blw (n0.add d) = true ∧ x.plain = true) → (loadsF s rs k).says E C →
    ∃ C', Ext C C' ∧ Has C' e ∧ Ones C'.v ∧ C'.h = C.h ∧ k.says E C' ∧ ∀ n0 gs g a n x d, Rec.load s n0 gs g a n x d ∈ rs → g.den C' = true → hread C'.h (a.den C') n = some (x.cells.map (CE.den C' noOwn)) := by
  intro rs
  induction rs with
  | nil =>
    intro c C hC ho hch _ h
    simp only [chainOk, decide_eq_true_eq] at hch
    subst hch
    exact ⟨C, Ext.refl C, hC, ho, rfl, h, fun _ _ _ _ _ _ _ h => by cases h⟩
  | cons r rs ih =>
    intro c C hC ho hch hb h
    have skip : (∀ n0 gs g a n x d, r ≠ Rec.load s n0 gs g a n x d) → chainOk s rs c e = true → (loadsF s rs k).says E C →
        ∃ C', Ext C C' ∧ Has C' e ∧ Ones C'.v ∧ C'.h = C.h ∧ k.says E C' ∧ ∀ n0 gs g a n x d, Rec.load s n0 gs g a n x d ∈ r :: rs → g.den C' = true → hread C'.h (a.den C') n = some (x.cells.map (CE.den C' noOwn)) := by
      intro hne hch h
      obtain ⟨C', h1, h2, h3, h4, h5, h6⟩ := ih c C hC ho hch (fun n0 gs g a n x d hm => hb n0 gs g a n x d (List.mem_cons_of_mem _ hm)) h
      refine ⟨C', h1, h2, h3, h4, h5, fun n0 gs g a n x d hm => ?_⟩
      rcases List.mem_cons.1 hm with e | hm
      · exact absurd e.symm (hne _ _ _ _ _ _ _)
      · exact h6 n0 gs g a n x d hm
    cases r with
    | val => exact skip (fun _ _ _ _ _ _ _ e => by cases e) hch h
    | tup => exact skip (fun _ _ _ _ _ _ _ e => by cases e) hch h
    | call => exact skip (fun _ _ _ _ _ _ _ e => by cases e) hch h
    | new => exact skip (fun _ _ _ _ _ _ _ e => by cases e) hch h
    | sto => exact skip (fun _ _ _ _ _ _ _ e => by cases e) hch h
    | load s' n0 gs g a n x d =>
      by_cases hs : s' = s
      · subst hs
        rw [chainOk, if_pos rfl, Bool.and_eq_true, decide_eq_true_eq] at hch
        obtain ⟨rfl, hch⟩ := hch
        rw [loadsF, if_pos rfl] at h
        obtain ⟨hy, hno⟩ := h
        obtain ⟨b1, b2, b3, b4⟩ := hb n0 gs g a n x d (by simp)
        have next : ∀ y : Inc, y.cnt = d → Ones y.v → (g.den C = true → hread C.h (a.den C) n = some (x.cells.map (CE.den (C.push y) noOwn))) → (loadsF s' rs k).says E (C.push y) →
            ∃ C', Ext C C' ∧ Has C' e ∧ Ones C'.v ∧ C'.h = C.h ∧ k.says E C' ∧ ∀ n0' gs' g' a' n' x' d', Rec.load s' n0' gs' g' a' n' x' d' ∈ Rec.load s' n0 gs g a n x d :: rs → g'.den C' = true → hread C'.h (a'.den C') n' = some (x'.cells.map (CE.den C' noOwn)) := by
          intro y hyc hyo hread hk
          obtain ⟨C', h1, h2, h3, h4, h5, h6⟩ := ih (n0.add d) (C.push y) (hC.push (by rw [hyc])) (ones_push ho hyo) hch (fun n0 gs g a n x d hm => hb n0 gs g a n x d (List.mem_cons_of_mem _ hm)) hk
          refine ⟨C', (Ext.push C y).trans h1, h2, h3, h4, h5, fun n0' gs' g' a' n' x' d' hm hg => ?_⟩
          rcases List.mem_cons.1 hm with e | hm
          · cases e
            have A0 : Agr n0 C C' := ((Ext.push C y).trans h1).agr hC
            have A1 : Agr (n0.add d) (C.push y) C' := h1.agr (hC.push (by rw [hyc]))
            rw [← BE.den_blw A0 g b1] at hg
            have := hread hg
            rw [h4, ← AE.den_blw A0 a b2, ← map_den_blw A1 noOwn x.cells b3]
            exact this
          · exact h6 n0' gs' g' a' n' x' d' hm hg
        cases hg : g.den C
        · refine next (Inc.blank d) (by simp [Inc.blank, Inc.cnt]) (fun u hu => by rw [List.eq_of_mem_replicate hu]; rfl) (fun h => by rw [hg] at h; cases h) (hno hg)
        · have := hy hg
          rw [exI_iff] at this
          obtain ⟨y, hyc, hyo, hread, hk⟩ := this
          exact next y hyc hyo (fun _ => hread) hk
      · rw [chainOk, if_neg hs] at hch
        rw [loadsF, if_neg hs] at h
        exact skip (fun _ _ _ _ _ _ _ e => by cases e; exact hs rfl) hch h
theorem hread_le {h k : Hp} (hl : HLe h k) {x : Option (Nat × Nat)} {n : Nat} {cs : List Value} (hr : hread h x n = some cs) : hread k x n = some cs := by
  unfold hread at hr ⊢
  split at hr
  · split at hr
    · rename_i o ho
      rw [hl _ _ ho]
      exact hr
    · cases hr
  · cases hr

/-- What holds while the operations come up in whatever order. -/
structure Inv (E : Env) (B : Nat) (h0 : Hp) (w0 : World) (D : Dr) (C0 : Ctx) (K : Fm) (nw : Cfg) (P : Program) (ops : Array Oper) (listed : Array Bool) (ρ : Nat → Nat) (C : Ctx) (s : Nat) (a : Act) (w : World) : Prop where
  size : listed.size = ops.size
  low : ∀ j, D.L ≤ j → listed.getD j false = false
  closed : ∀ j, listed.getD j false = true → ∀ i ∈ D.pre j, listed.getD i false = true
  calls : ∀ k c, D.calls[k]? = some c → (listed.getD c false = true ↔ k < s)
  le : s ≤ D.calls.length
  ext : Ext C0 C
  needs : ∀ (i s' : Nat) (gs : Gs) (g c : BE) (v : PE), D.recs[i]? = some (Rec.val s' gs g c v) → s' ≤ s → g.den C = true → c.den C = true
  loads : ∀ (i s' : Nat) (n0 : Cnt) (gs : Gs) (g : BE) (a : AE) (n : Nat) (x : PE) (d : Cnt), D.recs[i]? = some (Rec.load s' n0 gs g a n x d) → s' ≤ s → g.den C = true → hread C.h (a.den C) n = some (x.cells.map (CE.den C noOwn))
  rest : (D.rest K s).says E C
  rep : Rep B h0 w0 ρ (D.at (fun j => listed.getD j false) (D.n s)) C a w

theorem getD_listed {l : Array Bool} {i j : Nat} (hi : i < l.size) : (l.setIfInBounds i true).getD j false = true ↔ (j = i ∨ l.getD j false = true) := by
  simp only [Array.getD_eq_getD_getElem?]
  by_cases h : i = j
  · subst h; simp [hi]
  · rw [Array.getElem?_setIfInBounds_ne h]
    constructor
    · exact .inr
    · rintro (h' | h')
      · exact absurd h'.symm h
      · exact h'

theorem ready_spec {listed : Array Bool} {i : Nat} (h : i ∈ Region.ready .any ops listed) : i < ops.size ∧ listed.getD i true = false ∧ ∀ o, ops[i]? = some o → ∀ e ∈ direct o, listed.getD e false = true := by
  unfold Region.ready at h
  simp only [List.mem_filter, List.mem_range, Bool.and_eq_true, Bool.not_eq_true'] at h
  obtain ⟨h1, h2, h3⟩ := h
  refine ⟨h1, h2, fun o ho e he => ?_⟩
  rw [ho] at h3
  simp only [Option.map_some, Option.getD_some] at h3
  unfold direct at he
  simp only [List.mem_filterMap] at he
  obtain ⟨ed, hed, hh⟩ := he
  split at hh
  · rename_i hb
    cases hh
    have := Array.all_eq_true_iff_forall_mem.1 h3 ed (Array.mem_toList_iff.1 hed)
    simpa [hb] using this
  · cases hh

theorem at_get {t : Nat} {v : VE} {listed : Nat → Bool} {n : Cnt} (h : (D.at listed n).t[t]? = some v) : ∃ u, D.st.t[t]? = some u ∧ v = (match D.wr t with | some j => if listed j then D.ve j else u | none => u) := by
  simp only [Dr.at, List.getElem?_mapIdx, Option.map_eq_some_iff] at h
  obtain ⟨u, hu, rfl⟩ := h
  exact ⟨u, hu, rfl⟩
/-- What an operation may look at is there when it comes up. -/
theorem sees_rep {listed : Array Bool} {i : Nat} {n m : Cnt} (R : Rep B h0 w0 ρ (D.at (fun j => listed.getD j false) n) C a w) (hcl : ∀ j, listed.getD j false = true → ∀ i ∈ D.pre j, listed.getD i false = true)
    (hpre : ∀ j ∈ D.pre i, listed.getD j false = true) (hi : listed.getD i false = false) : Rep B h0 w0 ρ { D.sees i m (D.mem fun j => listed.getD j false) with n := n } C a w := by
  have hm : ∃ x, (D.at (fun j => listed.getD j false) n).m = (D.sees i m (D.mem fun j => listed.getD j false)).m ++ x := ⟨_, rfl⟩
  obtain ⟨x, hm⟩ := hm
  refine rep_weaken (t' := (D.sees i m (D.mem fun j => listed.getD j false)).t) (rep_fewer R (m' := (D.sees i m (D.mem fun j => listed.getD j false)).m) hm) (by simp [Dr.sees, Dr.at]) fun t v hv => ?_
  simp only [Dr.sees, List.getElem?_mapIdx, Option.map_eq_some_iff] at hv
  obtain ⟨u, hu, rfl⟩ := hv
  simp only [Dr.at, List.getElem?_mapIdx, hu, Option.map_some, Option.some.injEq]
  cases hw : D.wr t with
  | none => right; rfl
  | some j =>
    simp only
    by_cases h1 : (D.pre i).contains j = true
    · right
      rw [if_pos h1, if_pos (hpre j (by simpa using h1))]
    · rw [if_neg h1]
      by_cases h2 : (D.pre j).contains i = true
      · right
        rw [if_pos h2]
        by_cases h3 : listed.getD j false = true
        · have := hcl j h3 i (by simpa using h2)
          rw [this] at hi; cases hi
        · rw [if_neg h3]
      · left; rw [if_neg h2]
theorem ve_names {r : Rec} {d : Nat} (h : ∀ g ∈ r.gs, g.1 ≠ d) : r.ve.names d = false := by
  have hw : ∀ (gs : Gs) (x : PE), (∀ g ∈ gs, g.1 ≠ d) → (wrapG gs x).names d = false := by
    intro gs x hg
    unfold wrapG
    split
    · rfl
    · simp only [VE.names, List.any_eq_false, beq_iff_eq]
      exact hg
  cases r with
  | val s gs g c v => exact hw gs v h
  | tup l => rfl
  | load s n0 gs g a n x d' => exact hw gs x h
  | new k cs ty sl => rfl
  | sto => rfl
  | call k gs g f vas x d' =>
    show (callVE gs x).names d = false
    unfold callVE
    split
    · exact hw gs _ h
    · rfl
    · rfl
theorem mem_m {listed : Array Bool} {i : Nat} (h : ∀ x ∈ D.sl, x.1 ≠ i) : D.mem (fun j => (listed.setIfInBounds i true).getD j false) = D.mem (fun j => listed.getD j false) := by
  unfold Dr.mem
  congr 1
  refine List.filter_congr fun x hx => ?_
  have hji : i ≠ x.1 := fun e => h x hx e.symm
  simp only [Array.getD_eq_getD_getElem?, Array.getElem?_setIfInBounds_ne hji]
theorem at_m {listed : Array Bool} {i : Nat} {n : Cnt} (h : ∀ b, D.al ≠ some (i, b)) (h' : ∀ x ∈ D.sl, x.1 ≠ i) : (D.at (fun j => (listed.setIfInBounds i true).getD j false) n).m = (D.at (fun j => listed.getD j false) n).m := by
  unfold Dr.at
  simp only [mem_m h']
  congr 1
  cases hD : D.al with
  | none => rfl
  | some x =>
    obtain ⟨j, b⟩ := x
    have hji : i ≠ j := fun e => h b (by rw [hD, e])
    simp only [Array.getD_eq_getD_getElem?, Array.getElem?_setIfInBounds_ne hji]
theorem rep_m {st : St} {m' : List Blk} (h : m' = st.m) (R : Rep B h0 w0 ρ st C a w) : Rep B h0 w0 ρ { st with m := m' } C a w := by subst h; exact R
/-- An operation has been carried out: its slot is written. -/
theorem put_rep {listed : Array Bool} {i : Nat} {o : Oper} {r : Rec} {n : Cnt} {u : Value} (H : DrOk nw P ops D) (O : OpOk nw P ops D i o r) (hr : D.recs[i]? = some r) (ho : ops[i]? = some o) (hsz : listed.size = ops.size) (hlt : i < ops.size)
    (R : Rep B h0 w0 ρ { D.at (fun j => listed.getD j false) n with m := (D.at (fun j => (listed.setIfInBounds i true).getD j false) n).m } C a w) (hcl : ∀ j, listed.getD j false = true → ∀ i ∈ D.pre j, listed.getD i false = true) (hi : listed.getD i false = false)
    (hv : r.ve.holds C ρ a.tmps u) : Rep B h0 w0 ρ (D.at (fun j => (listed.setIfInBounds i true).getD j false) n) C (a.put o.dst u) w := by
  have hvei : D.ve i = r.ve := by unfold Dr.ve; rw [hr]
  have h1 := R.size
  simp only [Dr.at, List.length_mapIdx] at h1
  refine ⟨by cases o.dst <;> exact R.defers, ?_, ?_, R.blocks, R.fresh, R.inj, R.free, R.holds, R.fr, R.base, R.ci, R.cb, R.cs, R.cv, R.cl, R.cp, R.ones⟩
  · simp only [Dr.at, List.length_mapIdx]
    cases o.dst <;> simp [Act.put, h1]
  · intro t v ht
    obtain ⟨y, hy, rfl⟩ := at_get ht
    have hget : (D.at (fun j => listed.getD j false) n).t[t]? = some (match D.wr t with | some j => if listed.getD j false then D.ve j else y | none => y) := by
      simp only [Dr.at, List.getElem?_mapIdx, hy]; rfl
    have hhold := R.slots t _ hget
    by_cases hdt : o.dst = some t
    · have hw := O.dst t hdt
      rw [hw]
      simp only
      rw [if_pos ((getD_listed (by omega)).2 (.inl rfl)), hvei, hdt]
      have hts : t < a.tmps.size := by
        have := (List.getElem?_eq_some_iff.1 hy).1
        omega
      show r.ve.holds C ρ (a.tmps.setIfInBounds t u) ((a.tmps.setIfInBounds t u).getD t undef)
      rw [getD_set_eq hts]
      exact holds_put (ve_names fun g hg e => O.irr (O.gs g hg i (by rw [e]; exact hw))) hv
    · have hys : ∀ d, y.names d = false := fun d => by
        have := H.still y (List.mem_of_getElem? hy)
        cases y with
        | wg gs x => cases this
        | _ => rfl
      have hsame : ∀ j, D.wr t = some j → ((listed.setIfInBounds i true).getD j false = listed.getD j false) := by
        intro j hj
        have hji : j ≠ i := by
          rintro rfl
          have := H.wr t j hj
          rw [ho] at this
          exact hdt this
        have := getD_listed (l := listed) (i := i) (j := j) (by omega)
        cases hq : listed.getD j false
        · rw [hq] at this
          cases hq2 : (listed.setIfInBounds i true).getD j false
          · rfl
          · rcases this.1 hq2 with h | h
            · exact absurd h hji
            · cases h
        · exact this.2 (.inr hq)
      have hval : (match D.wr t with | some j => if (listed.setIfInBounds i true).getD j false then D.ve j else y | none => y) = (match D.wr t with | some j => if listed.getD j false then D.ve j else y | none => y) := by
        cases hw : D.wr t with
        | none => rfl
        | some j => simp only; rw [hsame j hw]
      rw [hval]
      cases hd : o.dst with
      | none => exact hhold
      | some d =>
        have hne : d ≠ t := fun e => hdt (by rw [hd, e])
        show VE.holds C ρ (a.tmps.setIfInBounds d u) ((a.tmps.setIfInBounds d u).getD t undef) _
        rw [getD_set_ne hne]
        refine holds_put ?_ hhold
        cases hw : D.wr t with
        | none => exact hys d
        | some j =>
          simp only
          split
          · rename_i hlj
            unfold Dr.ve
            cases hrj : D.recs[j]? with
            | none => rfl
            | some rj =>
              have hj : j < D.L := by rw [← H.len]; exact (List.getElem?_eq_some_iff.1 hrj).1
              obtain ⟨oj, rj', _, hrj', Oj⟩ := H.op hj
              rw [hrj] at hrj'
              cases hrj'
              refine ve_names fun g hg e => ?_
              have := Oj.gs g hg i (by rw [e]; exact O.dst d hd)
              have := hcl j hlj i this
              rw [this] at hi; cases hi
          · exact hys d

theorem recE_o {o : Oper} {s : Nat} {n0 : Cnt} {M : St} {r : Rec} (h : recE nw P ops o s n0 M = some r) : ∃ gs g, guardOf M ops o = some gs ∧ gexpr M [] gs = some g ∧
    ((∃ v f args ts vas x n, o.op = .call { callee := .value v, args := args, argTypes := ts } ∧ calleeE M gs v args.toList = some (f, vas) ∧ freshR P M.n (resTypes P f) = some (x, n) ∧ hasBody P f = true ∧ vas.all PE.plain = true ∧ x.plain = true ∧ M.n.add (n.sub M.n) = n ∧ ((∃ p, x = .p p) ∨ (∃ l, x = .tup l) ∧ gs = []) ∧ r = .call s gs g f vas x (n.sub M.n)) ∨
     (∃ l, tupMove M o.op = some l ∧ gs = [] ∧ r = .tup l) ∨ (∃ c v, pureE nw P M gs o.op = some (c, v) ∧ r = .val s gs g c v) ∨
     (∃ t x ad y, ∃ n : Cnt, ∃ sz d, o.op = .load t x ∧ opd M gs x = some (.one (.adr ad)) ∧ sizeB P t = some sz ∧ P.underlying t = some d ∧ y.plain = true ∧ y.cells.length = sz ∧ y.aggOk P t = true ∧ r = .load s n0 gs g ad sz y (n.sub n0)) ∨
     (∃ cs t sl, newAny P M gs o.op = some (cs, t, sl) ∧ gs = [] ∧ r = .new M.m.length cs t sl) ∨
     (∃ t x y k off p n, o.op = .store t x y ∧ opd M gs x = some (.one (.own k off)) ∧ opd M gs y = some p ∧ sizeB P t = some n ∧ gs = [] ∧ p.cells.all (CE.sto M.n) = true ∧ p.cells.length = n ∧ r = .sto s k off p.cells)) := by
  unfold recE at h
  split at h
  · cases h
  · rename_i gs hgs
    split at h
    · cases h
    · rename_i g hg
      refine ⟨gs, g, hgs, hg, ?_⟩
      split at h
      · rename_i t ad hkl
        right; right; right; left
        unfold knownLoad at hkl
        split at hkl
        · rename_i t' x hop
          split at hkl
          · rename_i ad' hx
            cases hkl
            split at h
            · rename_i y n sz d hy hsz hd
              split at h
              · rename_i hck
                simp only [Bool.and_eq_true, decide_eq_true_eq] at hck
                obtain ⟨⟨⟨k1, k2⟩, k3⟩, k4⟩ := hck
                exact ⟨t, x, ad, y, n, sz, d, hop, hx, hsz, hd, k1, k3, k4, by cases h; rfl⟩
              · cases h
            · cases h
          · cases hkl
        · cases hkl
      · split at h
        · rename_i v args ts ho
          left
          split at h
          · rename_i f vas x n hvx
            simp only [Option.bind_eq_some_iff, Option.map_eq_some_iff, Prod.mk.injEq] at hvx
            obtain ⟨⟨f', vas'⟩, hcal, ⟨x', n'⟩, hx, rfl, rfl, rfl, rfl⟩ := hvx
            split at h
            · rename_i hck
              simp only [Bool.and_eq_true, decide_eq_true_eq] at hck
              obtain ⟨⟨⟨⟨k1, k2⟩, k3⟩, k4⟩, k5⟩ := hck
              refine ⟨v, _, args, ts, _, _, _, ho, hcal, hx, k1, k2, k3, k4, ?_, by cases h; rfl⟩
              unfold okR at k5
              split at k5
              · exact .inl ⟨_, rfl⟩
              · exact .inr ⟨⟨_, rfl⟩, by simpa using k5⟩
              · cases k5
            · cases h
          · cases h
        · rename_i t x y ho
          right; right; right; right; right
          split at h
          · rename_i k off p n hx hy hn
            split at h
            · rename_i hck
              exact ⟨t, x, y, k, off, p, n, ho, hx, hy, hn, hck.1, hck.2.1, hck.2.2, by cases h; rfl⟩
            · cases h
          · cases h
        · split at h
          · rename_i cs t sl hnew
            right; right; right; right; left
            split at h
            · rename_i hck
              exact ⟨cs, t, sl, hnew, hck.1, by cases h; rfl⟩
            · cases h
          · right
            unfold recV at h
            split at h
            · rename_i l hl
              split at h
              · rename_i hg0
                left
                exact ⟨l, hl, hg0, by cases h; rfl⟩
              · cases h
            · right; left
              simp only [Option.map_eq_some_iff] at h
              obtain ⟨⟨c, v⟩, hp, rfl⟩ := h
              exact ⟨c, v, hp, rfl⟩

theorem rest_cons {K : Fm} {s c : Nat} (h : D.calls[s]? = some c) : D.rest K s = (match D.recs[c]? with
    | some (.call _ _ g f vas r d) => callF (looksF s D.recs) g f vas r d (asmF D.recs K (D.calls.drop (s + 1)) (s + 1))
    | _ => .ff) := by
  have hlt := (List.getElem?_eq_some_iff.1 h).1
  unfold Dr.rest
  rw [List.drop_eq_getElem_cons hlt]
  have : D.calls[s] = c := by rw [List.getElem?_eq_getElem hlt] at h; exact Option.some.inj h
  rw [this]
  rfl
theorem callF_says {ks : List (BE × AE × Nat)} {g : BE} {f : FuncId} {vas : List PE} {r : VE} {d : Cnt} {k : Fm} (h : (callF ks g f vas r d k).says E C) :
    (g.den C = true → E.spec f (vas.map (PE.den C noOwn)) C.h fun v h => (∀ x ∈ ks, x.1.den C = true → hread h (x.2.1.den C) x.2.2 = hread C.h (x.2.1.den C) x.2.2) ∧ exI d fun x => v = r.den (C.push x) noOwn ∧ k.says E ((C.push x).heap h)) ∧ (g.den C = false → k.says E (C.push (Inc.blank d))) := by
  unfold callF at h
  split at h
  · rename_i he
    subst he
    refine ⟨fun hg => ?_, h.2⟩
    have h1 := h.1 hg
    have e : (fun (v : Value) (h : Hp) => (false = true → HLe C.h h) ∧ exI d fun x => v = r.den (C.push x) noOwn ∧ k.says E ((C.push x).heap h)) = fun v h => (∀ x ∈ ([] : List (BE × AE × Nat)), x.1.den C = true → hread h (x.2.1.den C) x.2.2 = hread C.h (x.2.1.den C) x.2.2) ∧ exI d fun x => v = r.den (C.push x) noOwn ∧ k.says E ((C.push x).heap h) := by
      funext v h
      apply propext
      constructor
      · exact fun hh => ⟨fun _ hx => (by cases hx), hh.2⟩
      · exact fun hh => ⟨fun hx => (by cases hx), hh.2⟩
    rw [← e]
    exact h1
  · exact h
theorem asm_rest {K : Fm} (s : Nat) : asmF D.recs K (D.calls.drop s) s = loadsF s D.recs (needsF s D.recs (D.rest K s)) := by
  unfold Dr.rest
  cases D.calls.drop s with
  | nil => rfl
  | cons c cs => rfl
/-- What has been checked of a stage's looks. -/
theorem DrOk.looks (H : DrOk nw P ops D) {s : Nat} : ∀ n0 gs g a n x d, Rec.load s n0 gs g a n x d ∈ D.recs → g.blw n0 = true ∧ a.blw n0 = true ∧ x.blw (n0.add d) = true ∧ x.plain = true := by
  intro n0 gs g a n x d hm
  obtain ⟨i, hi⟩ := List.getElem?_of_mem hm
  have hlt : i < D.L := by rw [← H.len]; exact (List.getElem?_eq_some_iff.1 hi).1
  obtain ⟨o, r, ho, hr, O⟩ := H.op hlt
  rw [hi] at hr
  cases hr
  obtain ⟨_, _, q3, q4, q5, _⟩ := O.load _ _ _ _ _ _ _ _ rfl
  refine ⟨q3, q4, q5, ?_⟩
  obtain ⟨gs', g', _, _, hc⟩ := recE_o (O.e fun _ => true)
  rcases hc with ⟨_, _, _, _, _, _, _, _, _, _, _, _, _, _, _, h⟩ | ⟨_, _, _, h⟩ | ⟨_, _, _, h⟩ | ⟨_, _, _, _, _, _, _, _, _, _, _, hp, _, _, h⟩ | ⟨_, _, _, _, _, h⟩ | ⟨_, _, _, _, _, _, _, _, _, _, _, _, _, _, h⟩
  · cases h
  · cases h
  · cases h
  · cases h; exact hp
  · cases h
  · cases h
theorem DrOk.noLoads (H : DrOk nw P ops D) (hm : D.recs.any Rec.isLoad = false) {i s' : Nat} {n0 gs g a n x d} (h : D.recs[i]? = some (Rec.load s' n0 gs g a n x d)) : False := by
  have := List.any_eq_false.1 hm _ (List.mem_of_getElem? h)
  exact this rfl

theorem opd_n (M : St) (n : Cnt) (gs : Gs) (x : Operand) : opd { M with n := n } gs x = opd M gs x := by
  cases x <;> rfl
theorem pureE_n (M : St) (n : Cnt) (gs : Gs) (op : Op) : pureE nw P { M with n := n } gs op = pureE nw P M gs op := by
  have h2 : ∀ l : List (Nat × Operand), partsE { M with n := n } gs l = partsE M gs l := by
    intro l
    induction l with
    | nil => rfl
    | cons x l ih => obtain ⟨i, x⟩ := x; simp only [partsE, ih, opd_n]
  have h3 : ∀ t p, loadE P { M with n := n } t p = loadE P M t p := fun t p => rfl
  have h4 : ∀ s, slotB { M with n := n } gs s = slotB M gs s := fun s => rfl
  have h5 : ∀ x, optd { M with n := n } gs x = optd M gs x := fun x => by cases x <;> simp only [optd, opd_n]
  have h6 : ∀ l : List Operand, ptsE { M with n := n } gs l = ptsE M gs l := by
    intro l
    induction l with
    | nil => rfl
    | cons x l ih => simp only [ptsE, ih, opd_n]
  unfold pureE
  simp only [opd_n, h2, h3, h4, h5, h6]
theorem newAny_n (M : St) (n : Cnt) (gs : Gs) (op : Op) : newAny P { M with n := n } gs op = newAny P M gs op := by
  have h2 : ∀ l : List (Nat × Operand), partsE { M with n := n } gs l = partsE M gs l := by
    intro l
    induction l with
    | nil => rfl
    | cons x l ih => obtain ⟨i, x⟩ := x; simp only [partsE, ih, opd_n]
  unfold newAny newOp sliceOp
  simp only [opd_n, h2]
/-- One operation comes up. -/
theorem inv_step (hE : Good P E) (H : DrOk nw P ops D) {C0 : Ctx} {K : Fm} {listed : Array Bool} {s : Nat} (I : Inv E B h0 w0 D C0 K nw P ops listed ρ C s a w) {i : Nat} (hr : i ∈ Region.ready .any ops listed) (hiL : i < D.L) {Q : Exit → Act → World → Prop} :
    wpOp P ops Q i (fun a' w' => ∃ ρ' C' s', Inv E B h0 w0 D C0 K nw P ops (listed.setIfInBounds i true) ρ' C' s' a' w') a w := by
  obtain ⟨hlt, hnot, hdir⟩ := ready_spec hr
  obtain ⟨o, r, ho, hrec, O⟩ := H.op hiL
  have hsz := I.size
  have hi : listed.getD i false = false := by
    have : i < listed.size := by omega
    rw [Array.getD_eq_getD_getElem?, Array.getElem?_eq_getElem this] at hnot ⊢
    exact hnot
  have hpre : ∀ j ∈ D.pre i, listed.getD j false = true := by
    intro j hj
    unfold Dr.pre at hj
    rw [H.tab] at hj
    obtain ⟨o', ho', hh⟩ := preT_spec ops.toList [] i (Nat.zero_le _) j hj
    have hoo : o' = o := by
      simp only [List.length_nil, Nat.sub_zero] at ho'
      rw [Array.getElem?_toList, ho] at ho'
      exact (Option.some.inj ho').symm
    subst hoo
    rcases hh with h | ⟨e, he, hx⟩
    · exact hdir o' ho j h
    · refine I.closed e (hdir o' ho e he) j ?_
      unfold Dr.pre
      rw [H.tab]; exact hx
  have hstage : D.stage i ≤ s := by
    rcases O.stage with h | ⟨c, hc, hm⟩
    · omega
    · have := (I.calls _ c hc).1 (hpre c hm)
      omega
  have hblwAt : (D.at (fun j => listed.getD j false) (D.n s)).blw = true := by
    have hb := H.blw
    simp only [St.blw, Bool.and_eq_true] at hb ⊢
    have h0s : D.st.n.le (D.n s) = true := Cnt.le_trans H.n0 (H.le (Nat.zero_le _) I.le)
    refine ⟨List.all_eq_true.2 fun v hv => ?_, List.all_eq_true.2 fun b hb' => List.all_eq_true.2 fun c hc => ?_⟩
    rotate_left
    · have hb'' : b ∈ D.mem (fun j => listed.getD j false) ++ (match D.al with | some (i, b) => if listed.getD i false then [b] else [] | none => []) := hb'
      rcases List.mem_append.1 hb'' with hb' | hb'
      · have old : ∀ b' ∈ D.st.m, ∀ c ∈ b'.cells, c.blw (D.n s) = true := fun b' hb' c hc => CE.blw_le h0s c (List.all_eq_true.1 (List.all_eq_true.1 hb.2 b' hb') c hc)
        rcases setAll_mem hb' with hb' | ⟨x, hx, rfl⟩
        · exact old b hb' c hc
        · obtain ⟨hxs, hla⟩ := List.mem_filter.1 hx
          obtain ⟨oa, ra, _, hra, Oa⟩ := H.op (H.slOk x hxs)
          have hsta : D.stage x.1 ≤ s := by
            rcases Oa.stage with h | ⟨c, hc, hm⟩
            · omega
            · have := (I.calls _ c hc).1 (I.closed x.1 hla c hm)
              omega
          cases ra with
          | sto s' k' off cs =>
            obtain ⟨_, _, b0, q0, _, q2⟩ := Oa.sto _ _ _ _ rfl
            have hxe : x = (x.1, k', ⟨b0.cells.take off ++ cs ++ b0.cells.drop (off + cs.length), b0.ty⟩) := by
              obtain ⟨p1, hp1⟩ := List.getElem?_of_mem hxs
              obtain ⟨p2, hp2⟩ := List.getElem?_of_mem q2
              have e1 : (D.sl.map (·.1))[p1]? = some x.1 := by rw [List.getElem?_map, hp1]; rfl
              have e2 : (D.sl.map (·.1))[p2]? = some x.1 := by rw [List.getElem?_map, hp2]; rfl
              have : p1 = p2 := (List.getElem?_inj (List.getElem?_eq_some_iff.1 e1).1 H.slN).1 (by rw [e1, e2])
              subst this
              rw [hp1] at hp2
              exact Option.some.inj hp2
            rw [hxe] at hc
            simp only at hc
            rcases List.mem_append.1 hc with hc | hc
            · rcases List.mem_append.1 hc with hc | hc
              · exact old b0 (List.mem_of_getElem? q0) c (List.mem_of_mem_take hc)
              · obtain ⟨_, _, _, _, hca⟩ := recE_o (Oa.e fun _ => true)
                rcases hca with ⟨_, _, _, _, _, _, _, _, _, _, _, _, _, _, _, h⟩ | ⟨_, _, _, h⟩ | ⟨_, _, _, h⟩ | ⟨_, _, _, _, _, _, _, _, _, _, _, _, _, _, h⟩ | ⟨_, _, _, _, _, h⟩ | ⟨_, _, _, _, _, p, _, _, _, _, _, _, hst, _, h⟩
                · cases h
                · cases h
                · cases h
                · cases h
                · cases h
                · cases h
                  have := List.all_eq_true.1 hst c hc
                  simp only [CE.sto, Bool.and_eq_true] at this
                  exact CE.blw_le (H.le hsta I.le) c this.1.1
            · exact old b0 (List.mem_of_getElem? q0) c (List.mem_of_mem_drop hc)
          | val => exact absurd rfl (Oa.sl (fun _ _ _ _ e => by cases e) x hxs)
          | tup => exact absurd rfl (Oa.sl (fun _ _ _ _ e => by cases e) x hxs)
          | call => exact absurd rfl (Oa.sl (fun _ _ _ _ e => by cases e) x hxs)
          | load => exact absurd rfl (Oa.sl (fun _ _ _ _ e => by cases e) x hxs)
          | new => exact absurd rfl (Oa.sl (fun _ _ _ _ e => by cases e) x hxs)
      · cases hal : D.al with
        | none => rw [hal] at hb'; cases hb'
        | some x =>
          obtain ⟨ia, bl⟩ := x
          rw [hal] at hb'
          simp only at hb'
          split at hb'
          · rename_i hla
            simp only [List.mem_singleton] at hb'
            subst hb'
            have hia := (H.alOk ia _ hal).2.1
            obtain ⟨oa, ra, _, hra, Oa⟩ := H.op hia
            have hsta : D.stage ia ≤ s := by
              rcases Oa.stage with h | ⟨c, hc, hm⟩
              · omega
              · have := (I.calls _ c hc).1 (I.closed ia hla c hm)
                omega
            cases ra with
            | new k cs ty sl =>
              obtain ⟨q0, _, _, _, q4⟩ := Oa.new _ _ _ _ rfl
              rw [hal] at q0
              cases q0
              exact CE.blw_le (H.le hsta I.le) c (List.all_eq_true.1 q4 c hc)
            | val => exact absurd hal (Oa.al (fun _ _ _ _ e => by cases e) _)
            | tup => exact absurd hal (Oa.al (fun _ _ _ _ e => by cases e) _)
            | call => exact absurd hal (Oa.al (fun _ _ _ _ e => by cases e) _)
            | load => exact absurd hal (Oa.al (fun _ _ _ _ e => by cases e) _)
            | sto => exact absurd hal (Oa.al (fun _ _ _ _ e => by cases e) _)
          · cases hb'
    obtain ⟨t, ht⟩ := List.getElem?_of_mem hv
    obtain ⟨y, hy, rfl⟩ := at_get ht
    have hyb := VE.blw_le h0s y (List.all_eq_true.1 hb.1 y (List.mem_of_getElem? hy))
    cases hw : D.wr t with
    | none => exact hyb
    | some j =>
      show VE.blw (D.n s) (if listed.getD j false = true then D.ve j else y) = true
      split
      · rename_i hlj
        unfold Dr.ve
        cases hrj : D.recs[j]? with
        | none => rfl
        | some rj =>
          have hj : j < D.L := by rw [← H.len]; exact (List.getElem?_eq_some_iff.1 hrj).1
          obtain ⟨oj, rj', _, hrj', Oj⟩ := H.op hj
          rw [hrj] at hrj'
          cases hrj'
          have hstj : D.stage j ≤ s := by
            rcases Oj.stage with h | ⟨c, hc, hm⟩
            · omega
            · have := (I.calls _ c hc).1 (I.closed j hlj c hm)
              omega
          have hwrap : ∀ (gs : Gs) (x : PE), x.blw (D.n s) = true → (wrapG gs x).blw (D.n s) = true := fun gs x hx => by
            unfold wrapG; split <;> exact hx
          cases rj with
          | val s' gs g c v =>
            obtain ⟨_, e1, _, _, e4⟩ := Oj.val _ _ _ _ _ rfl
            exact hwrap gs v (PE.blw_le (H.le (by omega) I.le) v e4)
          | tup l =>
            have := (Oj.tup l rfl).2
            exact List.all_eq_true.2 fun x hx => PE.blw_le (H.le hstj I.le) x (List.all_eq_true.1 this x hx)
          | new k cs ty sl => cases sl <;> rfl
          | sto => rfl
          | load s' n0 gs g a n x d =>
            obtain ⟨_, e1, _, _, e4, e5, _⟩ := Oj.load _ _ _ _ _ _ _ _ rfl
            exact hwrap gs x (PE.blw_le (H.le (by omega) I.le) x (PE.blw_le e5 x e4))
          | call k gs g f vas x d =>
            obtain ⟨e1, e2, e4, e5, _⟩ := Oj.call _ _ _ _ _ _ _ rfl
            have hks : k < s := (I.calls k j e2).1 hlj
            have hle := I.le
            have hxb : x.blw (D.n s) = true := VE.blw_le (H.le (by omega) I.le) x (VE.blw_le (H.chain (k + 1) (by omega)).2 x e5)
            show (callVE gs x).blw (D.n s) = true
            cases x with
            | p y => exact hwrap gs y hxb
            | tup l => exact hxb
            | dead => rfl
            | wg _ _ => rfl
      · exact hyb
  have hclosed' : ∀ j, (listed.setIfInBounds i true).getD j false = true → ∀ k ∈ D.pre j, (listed.setIfInBounds i true).getD k false = true := by
    intro j hj k hk
    rw [getD_listed (by omega)] at hj ⊢
    rcases hj with rfl | hj
    · exact .inr (hpre k hk)
    · exact .inr (I.closed j hj k hk)
  have hlow' : ∀ j, D.L ≤ j → (listed.setIfInBounds i true).getD j false = false := by
    intro j hj
    cases hq : (listed.setIfInBounds i true).getD j false
    · rfl
    · rcases (getD_listed (by omega)).1 hq with rfl | h
      · omega
      · rw [I.low j hj] at h; cases h
  have RM : Rep B h0 w0 ρ { D.sees i (D.n (D.stage i)) (D.mem fun j => listed.getD j false) with n := D.n s } C a w := sees_rep (m := D.n (D.stage i)) I.rep I.closed hpre hi
  obtain ⟨gs, g, hgs, hg, hcase⟩ := recE_o (O.e fun j => listed.getD j false)
  have hgs' : guardOf { D.sees i (D.n (D.stage i)) (D.mem fun j => listed.getD j false) with n := D.n s } ops o = some gs := hgs
  have hg' : gexpr { D.sees i (D.n (D.stage i)) (D.mem fun j => listed.getD j false) with n := D.n s } [] gs = some g := by
    have : ∀ (l pre : Gs), gexpr { D.sees i (D.n (D.stage i)) (D.mem fun j => listed.getD j false) with n := D.n s } pre l = gexpr (D.sees i (D.n (D.stage i)) (D.mem fun j => listed.getD j false)) pre l := by
      intro l
      induction l with
      | nil => intro pre; rfl
      | cons x l ih => intro pre; simp only [gexpr, ih]; rfl
    rw [this]; exact hg
  have hw := guard_wanted RM hgs'
  have hgi := gexpr_iff RM gs [] g (conds_nil _) hg'
  -- an operation that is no call
  have fin' : ∀ (ρ' : Nat → Nat) (u : Value) (w' : World), Rep B h0 w0 ρ' { D.at (fun j => listed.getD j false) (D.n s) with m := (D.at (fun j => (listed.setIfInBounds i true).getD j false) (D.n s)).m } C a w' → r.ve.holds C ρ' a.tmps u → i ∉ D.calls →
      ∃ ρ' C' s', Inv E B h0 w0 D C0 K nw P ops (listed.setIfInBounds i true) ρ' C' s' (a.put o.dst u) w' := by
    intro ρ' u w' R' hu hnc
    refine ⟨ρ', C, s, by simp [hsz], hlow', hclosed', ?_, I.le, I.ext, I.needs, I.loads, I.rest, put_rep H O hrec ho hsz hlt R' I.closed hi hu⟩
    intro k c hc
    rw [getD_listed (by omega), I.calls k c hc]
    constructor
    · rintro (rfl | h)
      · exact absurd (List.mem_of_getElem? hc) hnc
      · exact h
    · exact .inr
  have fin : (∀ k cs ty sl, r ≠ .new k cs ty sl) → (∀ s k off cs, r ≠ .sto s k off cs) → ∀ (u : Value), r.ve.holds C ρ a.tmps u → i ∉ D.calls → ∃ ρ' C' s', Inv E B h0 w0 D C0 K nw P ops (listed.setIfInBounds i true) ρ' C' s' (a.put o.dst u) w :=
    fun hne hns u hu hnc => fin' ρ u w (rep_m (at_m (O.al hne) (O.sl hns)) I.rep) hu hnc
  unfold wpOp
  rw [ho]
  simp only
  rcases hcase with ⟨vf, f, args, ts, vas, x, n, hop, hcal, hx, hbody, hpl, hxp, hn, hshape, rfl⟩ | ⟨l, hl, hgs0, rfl⟩ | ⟨c, v, hp, rfl⟩ | ⟨t, x, ad, y, n, sz, d, hop, hx, hsize, hd, hyp, hyl, hya, rfl⟩ | ⟨cs, t, slo, hnew, hgs0, rfl⟩ | ⟨t, x, y, k, off, p, n, hop, hx, hy, hn, hgs0, hst, hlen, rfl⟩
  · -- a call
    obtain ⟨e1, e2, e4, e5, e6⟩ := O.call _ _ _ _ _ _ _ rfl
    have hks : D.stage i = s := by
      have : ¬ D.stage i < s := fun h => by have := (I.calls _ i e2).2 h; rw [this] at hi; cases hi
      omega
    rw [hks] at e2 e5
    have hsl : s < D.calls.length := (List.getElem?_eq_some_iff.1 e2).1
    have e3 : D.start (s + 1) = (D.n s).add (n.sub (D.n (D.stage i))) := by
      simp only [Dr.start, e2, Option.bind_some, hrec]
      rfl
    have hrest := I.rest
    rw [rest_cons e2, hrec] at hrest
    obtain ⟨hy, hno⟩ := callF_says hrest
    have hfin : ∀ (C1 : Ctx) (w' : World) (u : Value), Ext C C1 → Has C1 (D.start (s + 1)) → Ones C1.v → Holds C1.h w' → Fr w.heap.size C.h C1.h w w' → (∀ x ∈ looksF s D.recs, x.1.den C = true → hread C1.h (x.2.1.den C) x.2.2 = hread C.h (x.2.1.den C) x.2.2) →
        (callVE gs x).holds C1 ρ a.tmps u → (asmF D.recs K (D.calls.drop (s + 1)) (s + 1)).says E C1 →
        ∃ ρ' C' s', Inv E B h0 w0 D C0 K nw P ops (listed.setIfInBounds i true) ρ' C' s' (a.put o.dst u) w' := by
      intro C1 w' u hx1 hhas1 ho1 hH hF hHL hu hsay
      rw [asm_rest] at hsay
      obtain ⟨C', hxe, hhas, ho', hCh, hsay, hlooks⟩ := stage_enter D.recs (D.start (s + 1)) C1 hhas1 ho1 (H.chain (s + 1) hsl).1 H.looks hsay
      have hx' : Ext C C' := hx1.trans hxe
      have R2 : Rep B h0 w0 ρ (D.at (fun j => listed.getD j false) (D.n (s + 1))) C' a w' := rep_next (n := D.n (s + 1)) I.rep hblwAt hx' hhas ho' (by rw [hCh]; exact hH) (by rw [hCh]; exact hF)
      obtain ⟨k1, k2⟩ := needsF_says hsay
      have hagr := hx'.agr I.rep.has
      have hu' : (callVE gs x).holds C' ρ a.tmps u := by
        refine VE.holds_blw (hxe.agr hhas1) ρ _ _ _ ?_ hu
        cases x with
        | p y => show (wrapG gs y).blw _ = true; unfold wrapG; split <;> exact e5
        | tup l => exact e5
        | dead => rfl
        | wg _ _ => rfl
      refine ⟨ρ, C', s + 1, by simp [hsz], hlow', hclosed', ?_, hsl, I.ext.trans hx', ?_, ?_, k1, put_rep H O hrec ho hsz hlt (rep_m (at_m (O.al (fun _ _ _ _ e => by cases e)) (O.sl (fun _ _ _ _ e => by cases e))) R2) I.closed hi hu'⟩
      · intro k c hc
        rw [getD_listed (by omega), I.calls k c hc]
        constructor
        · rintro (rfl | h)
          · have : k = s := (List.getElem?_inj (List.getElem?_eq_some_iff.1 hc).1 H.nodup).1 (by rw [hc, e2])
            omega
          · omega
        · intro hk
          by_cases hks' : k = s
          · subst hks'; rw [e2] at hc; exact .inl (Option.some.inj hc).symm
          · exact .inr (by omega)
      · intro j s' gs' g' c' v' hj hs' hgt
        by_cases hle : s' ≤ s
        · have hjlt : j < D.L := by rw [← H.len]; exact (List.getElem?_eq_some_iff.1 hj).1
          obtain ⟨oj, rj', _, hrj', Oj⟩ := H.op hjlt
          rw [hj] at hrj'
          cases hrj'
          obtain ⟨_, q1, q2, q3, q4⟩ := Oj.val _ _ _ _ _ rfl
          have hA : Agr (D.n s') C C' := agr_le hagr (H.le (by omega) I.le)
          rw [← BE.den_blw hA c' q3]
          exact I.needs j s' gs' g' c' v' hj hle (by rw [BE.den_blw hA g' q2]; exact hgt)
        · obtain rfl : s' = s + 1 := by omega
          exact k2 gs' g' c' v' (List.mem_of_getElem? hj) hgt
      · intro j s' n0 gs' g' a' n' x' d' hj hs' hgt
        by_cases hle : s' ≤ s
        · have hjlt : j < D.L := by rw [← H.len]; exact (List.getElem?_eq_some_iff.1 hj).1
          obtain ⟨oj, rj', _, hrj', Oj⟩ := H.op hjlt
          rw [hj] at hrj'
          cases hrj'
          obtain ⟨_, q1, q2, q3, q4, q5, q6⟩ := Oj.load _ _ _ _ _ _ _ _ rfl
          have hA0 : Agr n0 C C' := agr_le hagr (Cnt.le_trans q6 (H.le (by omega) I.le))
          have hA1 : Agr (n0.add d') C C' := agr_le hagr (Cnt.le_trans q5 (H.le (by omega) I.le))
          have hgt' : g'.den C = true := by rw [BE.den_blw hA0 g' q2]; exact hgt
          have hm : (g', a', n') ∈ looksF s D.recs := List.mem_filterMap.2 ⟨_, List.mem_of_getElem? hj, by simp only; rw [if_pos hle]⟩
          have := I.loads j s' n0 gs' g' a' n' x' d' hj hle hgt'
          rw [← hHL _ hm hgt'] at this
          rw [AE.den_blw hA0 a' q3, map_den_blw hA1 noOwn x'.cells q4] at this
          rw [hCh]
          exact this
        · obtain rfl : s' = s + 1 := by omega
          exact hlooks n0 gs' g' a' n' x' d' (List.mem_of_getElem? hj) hgt
    split
    · rename_i hwant
      left
      have hc := hw.1 hwant
      have hspec := hy (hgi.2 hc)
      unfold Oper.wp
      have hcal' : calleeE { D.sees i (D.n (D.stage i)) (D.mem fun j => listed.getD j false) with n := D.n s } gs vf args.toList = some (f, vas) := by
        have : ∀ (l : List Operand), opds { D.sees i (D.n (D.stage i)) (D.mem fun j => listed.getD j false) with n := D.n s } gs l = opds (D.sees i (D.n (D.stage i)) (D.mem fun j => listed.getD j false)) gs l := by
          intro l
          induction l with
          | nil => rfl
          | cons x l ih => simp only [opds, ih]; rfl
        rw [← hcal]
        unfold calleeE
        rw [this]
        rfl
      rw [callee_run RM hc hop hcal' hbody hpl]
      show Calls P f (vas.map (PE.den C noOwn)).toArray w _
      refine (hE f _ _ _ w hspec I.rep.holds).mono ?_
      rintro e w' ⟨u, h, rfl, ⟨hHL, hu⟩, hH, hF⟩
      show ∃ ρ' C' s', Inv E B h0 w0 D C0 K nw P ops (listed.setIfInBounds i true) ρ' C' s' (a.put o.dst u) w'
      rw [exI_iff] at hu
      obtain ⟨y, hy', hones, hval, hsays⟩ := hu
      refine hfin ((C.push y).heap h) w' u ((Ext.push C y).trans (Ext.heap _ h)) ((I.rep.has.push (by rw [hy']; exact e3.symm)).heap h) (ones_push I.rep.ones hones) hH hF hHL ?_ hsays
      have hrn : ∀ F, x.den F noOwn = x.den F ρ := fun F => by
        cases x with
        | p y => exact y.den_plain hxp
        | tup l => exact congrArg (fun x => Value.tuple (List.toArray x)) (List.map_congr_left fun y hy => PE.den_plain y (List.all_eq_true.1 hxp y hy))
        | _ => rfl
      rcases hshape with ⟨p, rfl⟩ | ⟨⟨l, rfl⟩, rfl⟩
      · exact wrap_yes hc (by rw [hval, hrn, ← VE.den_heap (C.push y) h]; rfl)
      · rw [hval, hrn, ← VE.den_heap (C.push y) h]; rfl
    · rename_i hwant
      have hc : ¬ Conds gs a.tmps := fun h => hwant (hw.2 h)
      have hgf : g.den C = false := by
        cases hq : g.den C
        · rfl
        · exact absurd (hgi.1 hq) hc
      refine hfin (C.push (Inc.blank (n.sub (D.n (D.stage i))))) w undef (Ext.push C _) (I.rep.has.push (by rw [show (Inc.blank (n.sub (D.n (D.stage i)))).cnt = n.sub (D.n (D.stage i)) by simp [Inc.blank, Inc.cnt]]; exact e3.symm)) (ones_push I.rep.ones (fun u hu => by rw [List.eq_of_mem_replicate hu]; rfl)) I.rep.holds (Fr.refl _ _ _) (fun _ _ _ => rfl) ?_ (hno hgf)
      rcases hshape with ⟨p, rfl⟩ | ⟨⟨l, rfl⟩, rfl⟩
      · exact wrap_no hc
      · exact absurd (conds_nil _) hc
  · -- several results, copied
    subst hgs0
    rw [if_pos (hw.2 (conds_nil _))]
    left
    unfold tupMove at hl
    split at hl
    · rename_i t hop
      split at hl
      · rename_i l' hs'
        cases hl
        have hv : a.eval (.tmp t) = .tuple (l.map (PE.den C ρ)).toArray := RM.slots t _ hs'
        unfold Oper.wp
        have hrun : (execOp a.eval o).run P w = .ok (.value (.tuple (l.map (PE.den C ρ)).toArray)) w := by
          unfold execOp
          rw [hop, ← hv]
          rfl
        rw [hrun]
        exact fin (fun _ _ _ _ e => by cases e) (fun _ _ _ _ e => by cases e) _ rfl (O.tup l rfl).1
      · cases hl
    · cases hl
  · -- a value
    obtain ⟨q0, q1, q2, q3, q4⟩ := O.val _ _ _ _ _ rfl
    have hp' : pureE nw P { D.sees i (D.n (D.stage i)) (D.mem fun j => listed.getD j false) with n := D.n s } gs o.op = some (c, v) := by
      rw [← hp]; exact pureE_n _ _ _ _
    split
    · rename_i hwant
      have hc := hw.1 hwant
      have hneed := I.needs i _ gs g c v hrec hstage (hgi.2 hc)
      have := pure_sound RM hc hp' hneed
      left
      unfold Oper.wp
      rw [this]
      exact fin (fun _ _ _ _ e => by cases e) (fun _ _ _ _ e => by cases e) _ (wrap_yes hc rfl) q0
    · rename_i hwant
      have hc : ¬ Conds gs a.tmps := fun h => hwant (hw.2 h)
      exact fin (fun _ _ _ _ e => by cases e) (fun _ _ _ _ e => by cases e) _ (wrap_no hc) q0
  · -- a look into known memory
    obtain ⟨q0, q1, q2, q3, q4, q5, q6⟩ := O.load _ _ _ _ _ _ _ _ rfl
    split
    · rename_i hwant
      have hc := hw.1 hwant
      have hread := I.loads i _ _ gs g ad sz y _ hrec hstage (hgi.2 hc)
      obtain ⟨q, hq, hlen, hcell⟩ := hread_run I.rep.holds hread
      have he := opd_eval RM hc (show opd { D.sees i (D.n (D.stage i)) (D.mem fun j => listed.getD j false) with n := D.n s } gs x = some (.one (.adr ad)) from (opd_n _ _ _ _).trans hx)
      have he' : a.eval x = .pointer (some ⟨q.1, q.2, none⟩) := by rw [he]; show adrVal (ad.den C) = _; rw [hq]; rfl
      obtain ⟨L1, L2⟩ := loadk_run hd hsize hlen hcell
      have hrun : (execOp a.eval o).run P w = .ok (.value (y.den C ρ)) w := by
        unfold execOp
        rw [hop]
        simp only [he']
        refine run_v ?_
        cases y with
        | one c =>
          have hagg : isAggB P t = false := by simpa [PE.aggOk] using hya
          have hp : c.plain = true := by simpa [PE.plain, PE.cells] using hyp
          exact L2 hagg _ (by rw [show PE.den C ρ (.one c) = c.den C noOwn from c.den_plain hp]; rfl)
        | agg l =>
          have hagg : isAggB P t = true := hya
          rw [L1 hagg]
          show _ = Result.ok (Value.agg (l.map (CE.den C ρ)).toArray) w
          rw [← map_noOwn (ρ := ρ) (l := l) hyp]
          rfl
      left
      unfold Oper.wp
      rw [hrun]
      exact fin (fun _ _ _ _ e => by cases e) (fun _ _ _ _ e => by cases e) _ (wrap_yes hc rfl) q0
    · rename_i hwant
      have hc : ¬ Conds gs a.tmps := fun h => hwant (hw.2 h)
      exact fin (fun _ _ _ _ e => by cases e) (fun _ _ _ _ e => by cases e) _ (wrap_no hc) q0
  · -- a block of the call's own
    obtain ⟨q0, q1, q2, q3, q4⟩ := O.new _ _ _ _ rfl
    obtain ⟨a0, a1, a2, a3⟩ := H.alOk i _ q0
    subst hgs0
    rw [if_pos (hw.2 (conds_nil _))]
    left
    have hme : ∀ p, D.mem p = D.st.m := fun p => by unfold Dr.mem; rw [a0]; rfl
    have hm0 : (D.at (fun j => listed.getD j false) (D.n s)).m = D.st.m := by unfold Dr.at; simp [hme, q0, hi]
    have hm1 : (D.at (fun j => (listed.setIfInBounds i true).getD j false) (D.n s)).m = D.st.m ++ [⟨cs, t⟩] := by
      unfold Dr.at
      simp only [q0, hme]
      rw [if_pos ((getD_listed (by omega)).2 (.inl rfl))]
    have hokm : (D.at (fun j => listed.getD j false) (D.n s)).okm = true := by
      simp only [St.okm, Bool.and_eq_true] at a2 ⊢
      rw [hm0]
      refine ⟨List.all_eq_true.2 fun v hv => ?_, a2.2⟩
      obtain ⟨t', ht'⟩ := List.getElem?_of_mem hv
      obtain ⟨y, hy, rfl⟩ := at_get ht'
      have hyo := List.all_eq_true.1 a2.1 y (List.mem_of_getElem? hy)
      cases hwr : D.wr t' with
      | none => exact hyo
      | some j =>
        show VE.okm _ (if listed.getD j false = true then D.ve j else y) = true
        split
        · rename_i hlj
          unfold Dr.ve
          cases hrj : D.recs[j]? with
          | none => rfl
          | some rj =>
            rcases a3 j rj hrj with rfl | h | h
            · rw [hlj] at hi; cases hi
            · have := I.closed j hlj i h
              rw [this] at hi; cases hi
            · exact h
        · exact hyo
    obtain ⟨σ, hσ, R1⟩ := rep_alloc I.rep hokm (cs := cs) (by rw [hm0]; exact q3) t
    have hrun := newAny_run RM ((newAny_n _ _ _ _).trans hnew) (σ := σ) (k := D.st.m.length) (by rw [hm0] at hσ; exact hσ)
    unfold Oper.wp
    rw [hrun]
    refine fin' σ _ _ ?_ ?_ q2
    · rw [hm1]
      rw [hm0] at R1
      exact R1
    · have hq1 : (D.sees i (D.n (D.stage i)) (D.mem fun j => listed.getD j false)).m.length = D.st.m.length := congrArg List.length (hme fun j => listed.getD j false)
      show _ = (newVal (D.sees i (D.n (D.stage i)) (D.mem fun j => listed.getD j false)).m.length slo).den C σ
      rw [hq1]
  · -- a block of the call's own is written
    obtain ⟨_, q2, b, q3, q4, q5⟩ := O.sto _ _ _ _ rfl
    subst hgs0
    rw [if_pos (hw.2 (conds_nil _))]
    left
    have hal : ∀ b, D.al ≠ some (i, b) := O.al (fun _ _ _ _ e => by cases e)
    have hnal : D.al = none := by
      cases hD : D.al with
      | none => rfl
      | some z => obtain ⟨j, bb⟩ := z; rw [(H.alOk j bb hD).1] at q5; cases q5
    have hkk : ∀ x ∈ D.sl.filter (fun x => listed.getD x.1 false), x.2.1 ≠ k := by
      intro x hx e
      obtain ⟨hxs, hla⟩ := List.mem_filter.1 hx
      obtain ⟨p1, hp1⟩ := List.getElem?_of_mem hxs
      obtain ⟨p2, hp2⟩ := List.getElem?_of_mem q5
      have e1 : (D.sl.map (·.2.1))[p1]? = some k := by rw [List.getElem?_map, hp1, ← e]; rfl
      have e2 : (D.sl.map (·.2.1))[p2]? = some k := by rw [List.getElem?_map, hp2]; rfl
      have : p1 = p2 := (List.getElem?_inj (List.getElem?_eq_some_iff.1 e1).1 H.slK).1 (by rw [e1, e2])
      subst this
      rw [hp1] at hp2
      cases hp2
      simp only at hla
      rw [hla] at hi; cases hi
    have hm0 : (D.at (fun j => listed.getD j false) (D.n s)).m = D.mem (fun j => listed.getD j false) := by unfold Dr.at; simp [hnal]
    have hm1 : (D.at (fun j => (listed.setIfInBounds i true).getD j false) (D.n s)).m = (D.at (fun j => listed.getD j false) (D.n s)).m.set k ⟨b.cells.take off ++ p.cells ++ b.cells.drop (off + p.cells.length), b.ty⟩ := by
      rw [hm0]
      unfold Dr.at Dr.mem
      simp only [hnal, List.append_nil]
      refine setAll_step (i := i) (p := fun j => listed.getD j false) (q := fun j => (listed.setIfInBounds i true).getD j false) ((getD_listed (by omega)).2 (.inl rfl)) hi (fun j hj => ?_) q5 H.slN H.slK
      have := getD_listed (l := listed) (i := i) (j := j) (by omega)
      cases h1 : (listed.setIfInBounds i true).getD j false <;> cases h2 : listed.getD j false <;> simp_all
    have hbk : (D.at (fun j => listed.getD j false) (D.n s)).m[k]? = some b := by
      rw [hm0]
      unfold Dr.mem
      rw [setAll_get hkk]; exact q3
    have h1 : a.eval x = .pointer (some ⟨ρ k, off, none⟩) := opd_eval RM (conds_nil _) (show opd { D.sees i (D.n (D.stage i)) (D.mem fun j => listed.getD j false) with n := D.n s } [] x = some (.one (.own k off)) from (opd_n _ _ _ _).trans hx)
    have h2 := opd_eval RM (conds_nil _) (show opd { D.sees i (D.n (D.stage i)) (D.mem fun j => listed.getD j false) with n := D.n s } [] y = some p from (opd_n _ _ _ _).trans hy)
    have hrun : (execOp a.eval o).run P w = .ok .skip (w.setRow (ρ k) ((b.cells.take off ++ p.cells ++ b.cells.drop (off + p.cells.length)).map (CE.den C ρ)).toArray) := by
      unfold execOp
      rw [hop]
      have hst' := storek_run (P := P) (t := t) (off := off) (I.rep.blocks k b hbk) (pe_cells I.rep.ones ρ p) (n := n) hn (by simp [hlen]) (by simp; omega) (by
        intro u hu
        obtain ⟨c, hc, rfl⟩ := List.mem_map.1 hu
        have := List.all_eq_true.1 hst c hc
        simp only [CE.sto, Bool.and_eq_true, decide_eq_true_eq, Bool.not_eq_true'] at this
        refine ce_one I.rep.ones ρ c (D.n s) I.rep.cv.symm (CE.blw_le (H.le hstage I.le) c this.1.1) this.1.2 this.2)
      simp only [h1, h2, Sem.run_bind, hst']
      simp [List.map_take, List.map_drop, hlen]
    unfold Oper.wp
    rw [hrun]
    refine fin' ρ undef _ ?_ trivial q2
    rw [hm1]
    exact rep_store I.rep hbk

/-- A REGION THAT DRAWS ITS ORDER. -/
theorem draw_soundD (hm : P.follows .mixedOrders = true) (hE : Good P E) {K : St → Fm} {D : Dr} (hck : D.fine nw P ops st = true) (R : Rep B h0 w0 ρ st C a w) (hs : (drawF nw P ops K D).says E C) {id : Nat} {Q : Exit → Act → World → Prop}
    (hQp : ∀ c a w, ¬ Q (.panic c) a w) (hQo : ¬ LetsOut Q) (hK : ∀ ρ st D a w, Ext C D → Rep B h0 w0 ρ st D a w → (K st).says E D → Q .normal a w) : (Code.region id ops true).wp P Q a w := by
  unfold drawF at hs
  · unfold Dr.fine at hck
    simp only [Bool.and_eq_true, decide_eq_true_eq] at hck
    obtain ⟨⟨⟨hok, ht⟩, hmm⟩, hn⟩ := hck
    have H := drOk_of hok
    refine wp_region_any hm ?_
    generalize hKe : (pubS D.all fun st => genOps nw P ops (ops.toList.drop D.L) st K) = K0 at hs
    have hall : ∀ listed : Array Bool, listed.size = ops.size → Region.ready .any ops listed = [] → ∀ i, i < ops.size → listed.getD i false = true := by
      intro listed hsz hr i
      induction i using Nat.strongRecOn with
      | _ i ih =>
        intro hi
        cases hq : listed.getD i false
        · exfalso
          have hmem : i ∈ Region.ready .any ops listed := by
            unfold Region.ready
            simp only [List.mem_filter, List.mem_range, Bool.and_eq_true, Bool.not_eq_true']
            refine ⟨hi, ?_, ?_⟩
            · have : i < listed.size := by omega
              rw [Array.getD_eq_getD_getElem?, Array.getElem?_eq_getElem this] at hq ⊢
              exact hq
            · rw [Array.getElem?_eq_getElem hi]
              simp only [Option.map_some, Option.getD_some]
              rw [Array.all_eq_true_iff_forall_mem]
              intro ed hed
              cases hb : Region.binds .any ed
              · rfl
              · have hd : ed.on ∈ direct ops[i] := by
                  unfold direct
                  rw [List.mem_filterMap]
                  exact ⟨ed, Array.mem_toList_iff.2 hed, by rw [if_pos hb]⟩
                have hlt := H.down i ops[i] (Array.getElem?_eq_getElem hi) _ hd
                simp [ih ed.on hlt (by omega)]
          rw [hr] at hmem
          cases hmem
        · rfl
    -- all drawn ones are listed
    have fin : ∀ (listed : Array Bool) (ρ : Nat → Nat) (C' : Ctx) (s : Nat) (a : Act) (w : World), Inv E B h0 w0 D C K0 nw P ops listed ρ C' s a w → (∀ i, i < D.L → listed.getD i false = true) →
        Ext C C' ∧ Rep B h0 w0 ρ D.all C' a w ∧ K0.says E C' := by
      intro listed ρ C' s a w I hl
      have hs : s = D.calls.length := by
        have hle := I.le
        by_cases h : s < D.calls.length
        · obtain ⟨c, hc⟩ : ∃ c, D.calls[s]? = some c := ⟨_, List.getElem?_eq_getElem h⟩
          have h1 := I.calls s c hc
          have := h1.1 (hl c (H.callsLt c (List.mem_of_getElem? hc)))
          omega
        · omega
      subst hs
      have hrest := I.rest
      unfold Dr.rest at hrest
      rw [List.drop_length] at hrest
      have hat : D.at (fun j => listed.getD j false) (D.n D.calls.length) = D.all := by
        unfold Dr.all Dr.at
        congr 1
        · refine List.ext_getElem? fun t => ?_
          simp only [List.getElem?_mapIdx]
          cases D.st.t[t]? with
          | none => rfl
          | some v =>
            simp only [Option.map_some, Option.some.injEq]
            cases hw : D.wr t with
            | none => rfl
            | some j =>
              simp only
              rw [if_pos (hl j (H.wrLt t j hw)), if_pos trivial]
        · congr 1
          · unfold Dr.mem
            congr 1
            exact List.filter_congr fun x hx => hl x.1 (H.slOk x hx)
          cases hal : D.al with
          | none => rfl
          | some x =>
            obtain ⟨ia, b⟩ := x
            simp only
            rw [if_pos (hl ia (H.alOk ia b hal).2.1), if_pos trivial]
      have hrep := I.rep
      rw [hat] at hrep
      exact ⟨I.ext, hrep, hrest⟩
    -- those behind, in their order
    have phase2 : ∀ (fuel i : Nat) (listed : Array Bool) (ρ : Nat → Nat) (C' : Ctx) (st' : St) (a : Act) (w : World), D.L ≤ i → listed.size = ops.size → (∀ j, j < ops.size → (listed.getD j false = true ↔ j < i)) → Ext C C' → Rep B h0 w0 ρ st' C' a w →
        (genOps nw P ops (ops.toList.drop i) st' K).says E C' → ops.size - i ≤ fuel → wpAny P .any ops Q fuel listed a w := by
      intro fuel
      induction fuel with
      | zero =>
        intro i listed ρ C' st' a w hLi hsz hl hx R hs hf
        have hr : Region.ready .any ops listed = [] := by
          rw [List.eq_nil_iff_forall_not_mem]
          intro j hj
          obtain ⟨h1, h2, _⟩ := ready_spec hj
          have : listed.getD j false = true := (hl j h1).2 (by omega)
          have hjl : j < listed.size := by omega
          rw [Array.getD_eq_getD_getElem?, Array.getElem?_eq_getElem hjl] at this h2
          simp only [Option.getD_some] at this h2
          rw [this] at h2; cases h2
        have hd : ops.toList.drop i = [] := List.drop_eq_nil_of_le (by simp; omega)
        rw [hd] at hs
        exact ⟨hr, hK ρ st' C' a w hx R hs⟩
      | succ fuel ih =>
        intro i listed ρ C' st' a w hLi hsz hl hx R hs hf
        refine ⟨fun hr => ?_, fun j hj => ?_⟩
        · have hi : ops.size ≤ i := by
            by_cases h : i < ops.size
            · have := (hl i h).1 (hall listed hsz hr i h)
              omega
            · omega
          have hd : ops.toList.drop i = [] := List.drop_eq_nil_of_le (by simp; omega)
          rw [hd] at hs
          exact hK ρ st' C' a w hx R hs
        · obtain ⟨h1, h2, h3⟩ := ready_spec hj
          have hnot : ¬ j < i := fun h => by
            have : listed.getD j false = true := (hl j h1).2 h
            have hjl : j < listed.size := by omega
            rw [Array.getD_eq_getD_getElem?, Array.getElem?_eq_getElem hjl] at this h2
            simp only [Option.getD_some] at this h2
            rw [this] at h2; cases h2
          have hji : j = i := by
            by_cases h : j = i
            · exact h
            · exfalso
              -- i is ahead of j
              have hpre : i ∈ D.pre j := (H.suf j (by omega) h1 i (by omega)).resolve_left (fun hz => by have := (H.zOk i hz).1; omega)
              have hcl : ∀ e ∈ D.pre j, listed.getD e false = true := by
                intro e he
                unfold Dr.pre at he
                rw [H.tab] at he
                obtain ⟨o', ho', hh⟩ := preT_spec ops.toList [] j (Nat.zero_le _) e he
                have ho'' : ops[j]? = some o' := by simpa using ho'
                rcases hh with h | ⟨e', he', hx'⟩
                · exact h3 o' ho'' e h
                · have h4 := h3 o' ho'' e' he'
                  have hlt' := H.down j o' ho'' e' he'
                  have h5 := (hl e' (by omega)).1 h4
                  by_cases hee : e < i
                  · exact (hl e (by omega)).2 hee
                  · exfalso
                    -- e ∈ pre e' and e < e'
                    have : ∀ (n m : Nat), n ∈ (preT ops.toList []).getD m [] → n < m := by
                      intro n m
                      induction m using Nat.strongRecOn generalizing n with
                      | _ m ihm =>
                        intro hn
                        obtain ⟨o3, ho3, hh3⟩ := preT_spec ops.toList [] m (Nat.zero_le _) n hn
                        have ho3' : ops[m]? = some o3 := by simpa using ho3
                        rcases hh3 with h | ⟨e3, he3, hx3⟩
                        · exact H.down m o3 ho3' n h
                        · have := H.down m o3 ho3' e3 he3
                          have := ihm e3 this n hx3
                          omega
                    have := this e e' hx'
                    omega
              have := (hl i (by omega)).1 (hcl i hpre)
              omega
          subst hji
          have hdrop : ops.toList.drop j = ops[j] :: ops.toList.drop (j + 1) := by
            have := List.drop_eq_getElem_cons (l := ops.toList) (i := j) (by simpa using h1)
            simpa using this
          rw [hdrop] at hs
          have hstep := genOp_sound (ops := ops) (Q := Q) hE R (K := fun st => genOps nw P ops (ops.toList.drop (j + 1)) st K) hs (Next := wpAny P .any ops Q fuel (listed.setIfInBounds j true)) (fun ρ2 st2 D2 a2 w2 hx2 R2 hs2 =>
            ih (j + 1) _ ρ2 D2 st2 a2 w2 (by omega) (by simp [hsz]) (fun k hk => by
              rw [getD_listed (by omega), hl k hk]; omega) (hx.trans hx2) R2 hs2 (by omega))
          unfold wpOp
          rw [Array.getElem?_eq_getElem h1]
          exact hstep
    have key : ∀ (fuel : Nat) (listed : Array Bool) (ρ : Nat → Nat) (C' : Ctx) (s : Nat) (a : Act) (w : World), Inv E B h0 w0 D C K0 nw P ops listed ρ C' s a w → ((List.range ops.size).filter fun j => !listed.getD j false).length ≤ fuel → (∀ z ∈ D.z, listed.getD z false = true) → wpAny P .any ops Q fuel listed a w := by
      -- the drawn ones are all listed: go on in order
      have turn : ∀ (fuel : Nat) (listed : Array Bool) (ρ : Nat → Nat) (C' : Ctx) (s : Nat) (a : Act) (w : World), Inv E B h0 w0 D C K0 nw P ops listed ρ C' s a w → (∀ i, i < D.L → listed.getD i false = true) → ((List.range ops.size).filter fun j => !listed.getD j false).length ≤ fuel → wpAny P .any ops Q fuel listed a w := by
        intro fuel listed ρ C' s a w I hl hc
        obtain ⟨hx, R, hs⟩ := fin listed ρ C' s a w I hl
        rw [← hKe] at hs
        obtain ⟨C2, st2, hx2, R2, hs2⟩ := pubS_sound R hs
        refine phase2 fuel D.L listed ρ C2 st2 a w (Nat.le_refl _) I.size (fun j hj => ⟨fun h => ?_, fun h => hl j h⟩) (hx.trans hx2) R2 hs2 ?_
        · by_cases hjL : j < D.L
          · exact hjL
          · rw [I.low j (by omega)] at h; cases h
        · refine Nat.le_trans ?_ hc
          have : ((List.range ops.size).filter fun j => !listed.getD j false) = (List.range ops.size).filter fun j => decide (D.L ≤ j) := by
            refine List.filter_congr fun j _ => ?_
            by_cases hjL : j < D.L
            · rw [hl j hjL]; simp; omega
            · rw [I.low j (by omega)]; simp; omega
          rw [this]
          have hLle := H.Lle
          have hcount : ∀ n m : Nat, m ≤ n → ((List.range n).filter fun j => decide (m ≤ j)).length = n - m := by
            intro n
            induction n with
            | zero => intro m hm; simp
            | succ n ihn =>
              intro m hm
              rw [List.range_succ, List.filter_append, List.length_append]
              by_cases h : m ≤ n
              · rw [ihn m h]; simp [h]; omega
              · have : m = n + 1 := by omega
                subst this
                have hz : (List.filter (fun j => decide (n + 1 ≤ j)) (List.range n)) = [] := by
                  rw [List.filter_eq_nil_iff]
                  intro j hj
                  have := List.mem_range.1 hj
                  simp; omega
                rw [hz]; simp
          rw [hcount _ _ hLle]
          exact Nat.le_refl _
      intro fuel
      induction fuel with
      | zero =>
        intro listed ρ C' s a w I hc hz
        have hnil : (List.range ops.size).filter (fun j => !listed.getD j false) = [] := List.eq_nil_of_length_eq_zero (by omega)
        refine turn 0 listed ρ C' s a w I (fun i hi => ?_) hc
        have hLle := H.Lle
        rw [List.filter_eq_nil_iff] at hnil
        have := hnil i (List.mem_range.2 (by omega))
        simpa using this
      | succ fuel ih =>
        intro listed ρ C' s a w I hc hz
        by_cases hdone : ∀ i, i < D.L → listed.getD i false = true
        · exact turn (fuel + 1) listed ρ C' s a w I hdone hc
        refine ⟨fun hr => absurd (fun i hi => hall listed I.size hr i (by have := H.Lle; omega)) hdone, fun i hi => ?_⟩
        obtain ⟨hlt, hnot, hdir⟩ := ready_spec hi
        have hiL : i < D.L := by
          by_cases h : i < D.L
          · exact h
          · exfalso
            apply hdone
            intro k hk
            rcases H.suf i (by omega) hlt k (by omega) with hzk | hpre
            · exact hz k hzk
            unfold Dr.pre at hpre
            rw [H.tab] at hpre
            obtain ⟨o', ho', hh⟩ := preT_spec ops.toList [] i (Nat.zero_le _) k hpre
            have ho'' : ops[i]? = some o' := by simpa using ho'
            rcases hh with h | ⟨e, he, hx⟩
            · exact hdir o' ho'' k h
            · refine I.closed e (hdir o' ho'' e he) k ?_
              unfold Dr.pre
              rw [H.tab]; exact hx
        refine wpOp_mono ?_ (inv_step hE H I hi hiL)
        rintro a' w' ⟨ρ', C'', s', I'⟩
        have hsz := I.size
        refine ih _ ρ' C'' s' a' w' I' ?_ (fun z hzz => (getD_listed (by omega)).2 (.inr (hz z hzz)))
        have hi0 : listed.getD i false = false := by
          have : i < listed.size := by omega
          rw [Array.getD_eq_getD_getElem?, Array.getElem?_eq_getElem this] at hnot ⊢
          exact hnot
        have e : (List.range ops.size).filter (fun j => !(listed.setIfInBounds i true).getD j false) = ((List.range ops.size).filter fun j => !listed.getD j false).filter fun j => j != i := by
          rw [List.filter_filter]
          refine List.filter_congr fun j _ => ?_
          have := getD_listed (l := listed) (i := i) (j := j) (by omega)
          cases h1 : (listed.setIfInBounds i true).getD j false <;> cases h2 : listed.getD j false <;> by_cases h3 : j = i <;> simp_all
        have hlen : (((List.range ops.size).filter fun j => !listed.getD j false).filter fun j => j != i).length < ((List.range ops.size).filter fun j => !listed.getD j false).length := by
          rw [List.length_filter_lt_length_iff_exists]
          exact ⟨i, by simp only [List.mem_filter, List.mem_range]; exact ⟨hlt, by rw [hi0]; rfl⟩, by simp⟩
        rw [e]
        omega
    -- the lazy ones come up first
    have zs : ∀ (l : List Nat) (fuel : Nat) (listed : Array Bool) (ρ : Nat → Nat) (C' : Ctx) (s : Nat) (a : Act) (w : World), Inv E B h0 w0 D C K0 nw P ops listed ρ C' s a w → ((List.range ops.size).filter fun j => !listed.getD j false).length ≤ fuel →
        l.Nodup → (∀ z ∈ l, z ∈ D.z ∧ listed.getD z false = false) → (∀ z ∈ D.z, z ∈ l ∨ listed.getD z false = true) → wpAny P .any ops Q fuel listed a w := by
      intro l
      induction l with
      | nil => intro fuel listed ρ C' s a w I hc _ _ h2; exact key fuel listed ρ C' s a w I hc (fun z hz => (h2 z hz).resolve_left (by simp))
      | cons z l ih =>
        intro fuel listed ρ C' s a w I hc hnd h1 h2
        obtain ⟨hz, hun⟩ := h1 z (by simp)
        obtain ⟨hzL, hlz⟩ := H.zOk z hz
        have hsz := I.size
        have hzs : z < ops.size := by have := H.Lle; omega
        have hget := Array.getElem?_eq_getElem hzs
        unfold lazyOk at hlz
        rw [hget] at hlz
        simp only [Bool.and_eq_true] at hlz
        obtain ⟨⟨⟨z1, z2⟩, z3⟩, z4⟩ := hlz
        obtain ⟨x, hop⟩ : ∃ x, ops[z].op = .move x := by
          split at z1
          · exact ⟨_, by assumption⟩
          · cases z1
        have hrun : ∀ w, (execOp a.eval ops[z]).run P w = .ok (.value (a.eval x)) w := fun w => by unfold execOp; rw [hop]; rfl
        have hg : ops[z].guard = none := Option.isNone_iff_eq_none.1 z2
        have hwant : Region.wanted ops[z] (yielded ops a.tmps) = true := by unfold Region.wanted; rw [hg]
        have hready : z ∈ Region.ready .any ops listed := by
          rw [mem_ready]
          refine ⟨?_, ops[z], hget, fun e he => ?_⟩
          · have : z < listed.size := by omega
            rw [Array.getD_eq_getD_getElem?, Array.getElem?_eq_getElem this] at hun ⊢
            exact hun
          · rw [Array.isEmpty_iff] at z3
            rw [z3] at he
            simp at he
        have hsel : Region.noSelect ops = true := H.zSel.resolve_left (fun h => by rw [h] at hz; cases hz)
        have hstep := inv_step (Q := Q) hE H I hready hzL
        unfold wpOp at hstep
        simp only [hget, hwant, if_true] at hstep
        rcases hstep with hstep | ⟨_, hlo⟩
        rotate_left
        · exact absurd hlo hQo
        unfold Oper.wp at hstep
        rw [hrun] at hstep
        obtain ⟨ρ', C'', s', I'⟩ := hstep
        have e : (List.range ops.size).filter (fun j => !(listed.setIfInBounds z true).getD j false) = ((List.range ops.size).filter fun j => !listed.getD j false).filter fun j => j != z := by
          rw [List.filter_filter]
          refine List.filter_congr fun j _ => ?_
          have := getD_listed (l := listed) (i := z) (j := j) (by omega)
          cases h1 : (listed.setIfInBounds z true).getD j false <;> cases h2 : listed.getD j false <;> by_cases h3 : j = z <;> simp_all
        have hlen : (((List.range ops.size).filter fun j => !listed.getD j false).filter fun j => j != z).length < ((List.range ops.size).filter fun j => !listed.getD j false).length := by
          rw [List.length_filter_lt_length_iff_exists]
          exact ⟨z, by simp only [List.mem_filter, List.mem_range]; exact ⟨hzs, by rw [hun]; rfl⟩, by simp⟩
        obtain ⟨fuel, rfl⟩ : ∃ f, fuel = f + 1 := ⟨fuel - 1, by omega⟩
        refine wpAny_first (i := z) hget (Region.noSelect_spec hsel) (fun c a w h => absurd h (hQp c _ w)) fuel listed a w (fun j oj hj hne _ hno => Region.free_spec hget z4 j oj hj hne ?_ hno) hready (.inl ⟨hwant, hrun⟩) ?_
        · have hjs : j < ops.size := (Array.getElem?_eq_some_iff.1 hj).1
          simp [Array.getD_eq_getD_getElem?, hjs]
        · refine ih fuel _ ρ' C'' s' _ w I' (by rw [e]; omega) (List.nodup_cons.1 hnd).2 (fun y hy => ⟨(h1 y (by simp [hy])).1, ?_⟩) (fun y hy => ?_)
          · have hne : z ≠ y := fun e => (List.nodup_cons.1 hnd).1 (e ▸ hy)
            rw [Go.getD_set_ne false hne]
            exact (h1 y (by simp [hy])).2
          · rcases h2 y hy with h | h
            · rcases List.mem_cons.1 h with rfl | h
              · exact .inr ((getD_listed (by omega)).2 (.inl rfl))
              · exact .inl h
            · exact .inr ((getD_listed (by omega)).2 (.inr h))
    have hs' : (asmF D.recs K0 (D.calls.drop 0) 0).says E C := by rw [List.drop_zero]; exact hs
    rw [asm_rest] at hs'
    have hC0 : Has C (D.start 0) := by show Has C D.st.n; rw [hn]; exact R.has
    obtain ⟨C1, hx1, hhas1, ho1, hCh, hsay1, hlooks⟩ := stage_enter D.recs (D.start 0) C hC0 R.ones (H.chain 0 (Nat.zero_le _)).1 H.looks hs'
    have hsay := needsF_says hsay1
    have hnone : ∀ j, (Array.replicate ops.size false).getD j false = false := by
      intro j
      simp [Array.getD_eq_getD_getElem?, Array.getElem?_replicate]
      split <;> simp
    refine zs D.z ops.size _ ρ C1 0 a _ ⟨by simp, fun j _ => hnone j, ?_, ?_, Nat.zero_le _, hx1, ?_, ?_, hsay.1, ?_⟩ (by
      refine Nat.le_trans (List.length_filter_le _ _) (by simp)) H.znd (fun z hz => ⟨hz, hnone z⟩) (fun z hz => .inl hz)
    · intro j hj
      rw [hnone j] at hj; cases hj
    · intro k c hc
      rw [hnone c]
      simp
    · intro i s' gs g c v hi hs'
      obtain rfl : s' = 0 := by omega
      exact hsay.2 gs g c v (List.mem_of_getElem? hi)
    · intro i s' n0 gs g a' n x d hi hs'
      obtain rfl : s' = 0 := by omega
      exact hlooks n0 gs g a' n x d (List.mem_of_getElem? hi)
    · have R1 : Rep B h0 w0 ρ st C a { w with drawn := w.drawn + 1 } := ⟨R.defers, R.size, R.slots, R.blocks, R.fresh, R.inj, R.free, R.holds, ⟨R.fr.os, R.fr.tape, R.fr.output, R.fr.size, R.fr.block, R.fr.ghost⟩, R.base, R.ci, R.cb, R.cs, R.cv, R.cl, R.cp, R.ones⟩
      have R2 := rep_weaken (t' := (cleanSt st).t) R1 (by simp [cleanSt]) (fun t v hv => by
        simp only [cleanSt, List.getElem?_map, Option.map_eq_some_iff] at hv
        obtain ⟨u, hu, rfl⟩ := hv
        split
        · exact .inr hu
        · exact .inl rfl)
      have e : D.at (fun j => (Array.replicate ops.size false).getD j false) (D.n 0) = { st with t := (cleanSt st).t, n := D.n 0 } := by
        unfold Dr.at
        have hm3 : D.mem (fun j => (Array.replicate ops.size false).getD j false) = D.st.m := by
          unfold Dr.mem
          have : (D.sl.filter fun x => (Array.replicate ops.size false).getD x.1 false) = [] := by
            rw [List.filter_eq_nil_iff]
            intro x _
            rw [hnone x.1]; simp
          rw [this]; rfl
        have hm2 : (D.mem (fun j => (Array.replicate ops.size false).getD j false) ++ match D.al with | some (i, b) => if (Array.replicate ops.size false).getD i false then [b] else [] | none => []) = st.m := by
          rw [hm3]
          cases hal : D.al with
          | none => simp [hmm]
          | some x => obtain ⟨ia, b⟩ := x; simp only [hnone ia]; simp [hmm]
        simp only [hm2]
        congr 1
        rw [← ht]
        refine List.ext_getElem? fun t => ?_
        simp only [List.getElem?_mapIdx]
        cases D.st.t[t]? with
        | none => rfl
        | some v =>
          simp only [Option.map_some, Option.some.injEq]
          cases D.wr t with
          | none => rfl
          | some j =>
            simp only [hnone j]
            simp
      rw [e]
      refine rep_next (n := D.n 0) (st := { st with t := (cleanSt st).t }) R2 ?_ hx1 hhas1 ho1 (by rw [hCh]; exact R.holds) (by rw [hCh]; exact Fr.refl _ _ _)
      show St.blw ⟨(cleanSt st).t, st.m, st.n⟩ = true
      rw [← ht, ← hmm, ← hn]
      exact H.blw
theorem draw_sound (hm : P.follows .mixedOrders = true) (hE : Good P E) {K : St → Fm} (R : Rep B h0 w0 ρ st C a w) (hs : (genDraw nw P ops st K).says E C) {id : Nat} {Q : Exit → Act → World → Prop}
    (hK : ∀ ρ st D a w, Ext C D → Rep B h0 w0 ρ st D a w → (K st).says E D → Q .normal a w) : (Code.region id ops true).wp P Q a w := by
  refine wp_mono (Q := fun e a w => e = .normal ∧ Q .normal a w) ?_ (fun e a w h => h.1 ▸ h.2)
  unfold genDraw at hs
  split at hs
  · rename_i hck
    exact draw_soundD hm hE hck R hs (fun c a w h => by cases h.1) (fun ⟨_, _, h⟩ => by cases h.1) (fun ρ st D a w hx R h => ⟨rfl, hK ρ st D a w hx R h⟩)
  · split at hs
    · rename_i hck
      exact draw_soundD hm hE hck R hs (fun c a w h => by cases h.1) (fun ⟨_, _, h⟩ => by cases h.1) (fun ρ st D a w hx R h => ⟨rfl, hK ρ st D a w hx R h⟩)
    · exact hs.elim
end
end Go.Proofs.YthlakehilhpojaaDoor
namespace Go.Proofs.YthlakehilhpojaaDoor
open Go.RowKit

/-! ### Loops -/
structure LAnn where
  /-- The slots that are read behind the loop's head, ahead of being written: they get names. -/
  live : List Nat
  /-- The other slots that are written in the loop. -/
  wr : List Nat
  /-- The slots that hold the addresses of the call's own blocks that are written in the loop. -/
  blks : List Nat
/-- A loop's head: what lives is given a name. -/
def headC (n : Cnt) : CE → CE × Cnt
  | .i k _ => (.i k (.x n.i), { n with i := n.i + 1 })
  | .b _ => (.b (.x n.b), { n with b := n.b + 1 })
  | .s _ => (.s (.x n.s), { n with s := n.s + 1 })
  | .v _ => (.v n.v, { n with v := n.v + 1 })
  | .c (.fn f) => (.c (.fn f), n)
  | .c .nilp => (.pt n.p, { n with p := n.p + 1 })
  | .c _ => (.v n.v, { n with v := n.v + 1 })
  | .own k o => (.own k o, n)
  | .osl k o => (.osl k o, n)
  | .sl _ => (.sl (.x n.l), { n with l := n.l + 1 })
  | .pt _ => (.pt n.p, { n with p := n.p + 1 })
  | .adr _ => (.pt n.p, { n with p := n.p + 1 })
  | .clo _ _ => (.v n.v, { n with v := n.v + 1 })
def headL (n : Cnt) : List CE → List CE × Cnt
  | [] => ([], n)
  | v :: vs => let (x, n1) := headC n v; let (xs, n2) := headL n1 vs; (x :: xs, n2)
def headV (n : Cnt) : VE → VE × Cnt
  | .p (.one c) => let (x, n) := headC n c; (.p (.one x), n)
  | .p (.agg l) => let (x, n) := headL n l; (.p (.agg x), n)
  | _ => (.dead, n)
def VE.kept : VE → VE
  | .p x => .p x
  | _ => .dead
def headT (live wr : List Nat) (n : Cnt) (j : Nat) : List VE → List VE × Cnt
  | [] => ([], n)
  | v :: vs => let (x, n1) := if live.contains j then headV n v else if wr.contains j then (.dead, n) else (v.kept, n); let (xs, n2) := headT live wr n1 (j + 1) vs; (x :: xs, n2)
def headM (blks : List Nat) (n : Cnt) (j : Nat) : List Blk → List Blk × Cnt
  | [] => ([], n)
  | b :: bs => let (x, n1) := if blks.contains j then (let (l, n) := headL n b.cells; (⟨l, b.ty⟩, n)) else (b, n); let (xs, n2) := headM blks n1 (j + 1) bs; (x :: xs, n2)
def headSt (A : LAnn) (st : St) : St :=
  let (t, n1) := headT A.live A.wr st.n 0 st.t
  let (m, n2) := headM (A.blks.filterMap fun s => match st.t[s]? with | some (VE.p (.one (.own k _))) => some k | _ => none) n1 0 st.m
  ⟨t, m, n2⟩
def matchC (n : Cnt) (g : Got) : CE → CE → Option Got
  | .i k (.x j), .i k' e => if n.i + g.i.length = j ∧ k = k' then some { g with i := g.i ++ [e] } else if k = k' ∧ .x j = e ∧ j < n.i then some g else none
  | .b (.x j), .b e => if n.b + g.b.length = j then some { g with b := g.b ++ [e] } else if .x j = e ∧ j < n.b then some g else none
  | .s (.x j), .s e => if n.s + g.s.length = j then some { g with s := g.s ++ [e] } else if .x j = e ∧ j < n.s then some g else none
  | .v j, .v i => if n.v + g.v.length = j then some { g with v := g.v ++ [.v i] } else if j = i ∧ j < n.v then some g else none
  | .v j, .c x => if n.v + g.v.length = j then some { g with v := g.v ++ [.c x] } else none
  | .sl (.x j), .sl e => if n.l + g.l.length = j then some { g with l := g.l ++ [e] } else if .x j = e ∧ j < n.l then some g else none
  | .pt j, .pt i => if n.p + g.p.length = j then some { g with p := g.p ++ [.pt i] } else if j = i ∧ j < n.p then some g else none
  | .pt j, .c .nilp => if n.p + g.p.length = j then some { g with p := g.p ++ [.c .nilp] } else none
  | c, e => if c = e ∧ c.blw n = true then some g else none
def matchL (n : Cnt) (g : Got) : List CE → List CE → Option Got
  | [], [] => some g
  | c :: cs, e :: es => (matchC n g c e).bind fun g => matchL n g cs es
  | _, _ => none
def matchV (n : Cnt) (g : Got) : VE → VE → Option Got
  | .dead, _ => some g
  | .p (.one c), .p (.one e) => matchC n g c e
  | .p (.agg l), .p (.agg m) => matchL n g l m
  | _, _ => none
def matchT (n : Cnt) (g : Got) : List VE → List VE → Option Got
  | [], [] => some g
  | c :: cs, e :: es => (matchV n g c e).bind fun g => matchT n g cs es
  | _, _ => none
def matchM (n : Cnt) (g : Got) : List Blk → List Blk → Option Got
  | [], _ => some g
  | c :: cs, e :: es => if c.ty = e.ty then (matchL n g c.cells e.cells).bind fun g => matchM n g cs es else none
  | _, _ => none
def matchSt (n : Cnt) (hd st : St) : Option Got := (matchT n ⟨[], [], [], [], [], []⟩ hd.t st.t).bind fun g => matchM n g hd.m st.m
/-- The names' values may stand in a context of these counts. -/
def Got.fits (g : Got) (N : Cnt) : Bool := g.v.all fun c => c.plain && c.sto N

/-! ### Code -/
def loops : Code → Nat
  | .seq a b => loops a + loops b
  | .cond _ a b => loops a + loops b
  | .block _ a => loops a
  | .scope a => loops a + 1
  | .loop a => loops a + 1
  | .rangeFunc _ _ a b => loops a + loops b
  | _ => 0
/-- The label on a scope's spine. -/
def hasL : Code → Option Nat
  | .seq a b => match hasL a with
    | some l => some l
    | none => hasL b
  | .label l => some l
  | _ => none
/-- A loop's round is over. -/
def againF (l : Nat) (n0 : Cnt) (hd st' : St) : Fm :=
  match matchSt n0 hd st' with
  | some g => if !(g.fits st'.n && decide (hd.n = n0.add g.cnt)) then .ff else .again l n0 hd.n g
  | none => .ff
/-- A loop begins; F: what its body is turned into. -/
def loopF (l : Nat) (A : LAnn) (st : St) (F : St → Fm) : Fm :=
  match matchSt st.n (headSt A st) st with
  | some g => if !(g.fits st.n && decide ((headSt A st).n = st.n.add g.cnt)) then .ff else .loop l g (F (headSt A st))
  | none => .ff
mutual
def gen (nw : Cfg) (P : Program) (A : Nat → LAnn) : Code → Nat → St → (Exit → St → Fm) → Fm
  | .skip, _, st, K => K .normal st
  | .region _ ops false, _, st, K => genOps nw P ops ops.toList st (K .normal)
  | .region _ ops true, _, st, K => if P.follows .mixedOrders then genDraw nw P ops st (K .normal) else .ff
  | .seq a b, l, st, K => gen nw P A a l st fun e st => match e with
    | .normal => gen nw P A b (l + loops a) st K
    | e => K e st
  | .cond c a b, l, st, K => match opd st [] c with
    | some (.one (.b (.c true))) => gen nw P A a l st K
    | some (.one (.b (.c false))) => gen nw P A b (l + loops a) st K
    | some (.one (.b e)) => .ite e (gen nw P A a l st K) (gen nw P A b (l + loops a) st K)
    | _ => .ff
  | .block id a, l, st, K => gen nw P A a l st fun e st => match e with
    | .exit j => if j = id then K .normal st else K e st
    | e => K e st
  | .loop a, l, st, K => loopF l (A l) st fun hd => gen nw P A a (l + 1) hd fun e st' => match e with
    | .normal => againF l st.n hd st'
    | e => K e st'
  | .scope a, l, st, K => match hasL a with
    | none => .ff
    | some lb => genB nw P A a (l + 1) st fun e st1 => match e with
      | .normal => loopF l (A l) st1 fun hd => genA nw P A a (l + 1) hd fun e st' => match e with
        | .goto j => if j = lb then againF l st1.n hd st' else .ff
        | e => K e st'
      | .goto _ => .ff
      | e => K e st1
  | .goto j, _, st, K => K (.goto j) st
  | .exit id, _, st, K => K (.exit id) st
  | .ret, _, st, K => K .ret st
  | .label _, _, _, _ => .ff
  | .rangeFunc _ _ _ _, _, _, _ => .ff
  | .refuse _, _, _, _ => .ff
/-- Up to the label. -/
def genB (nw : Cfg) (P : Program) (A : Nat → LAnn) : Code → Nat → St → (Exit → St → Fm) → Fm
  | .seq a b, l, st, K => match hasL a with
    | some _ => genB nw P A a l st K
    | none => gen nw P A a l st fun e st => match e with
      | .normal => genB nw P A b (l + loops a) st K
      | e => K e st
  | .label _, _, st, K => K .normal st
  | _, _, _, _ => .ff
/-- From the label on. -/
def genA (nw : Cfg) (P : Program) (A : Nat → LAnn) : Code → Nat → St → (Exit → St → Fm) → Fm
  | .seq a b, l, st, K => match hasL a with
    | some _ => genA nw P A a l st fun e st => match e with
      | .normal => gen nw P A b (l + loops a) st K
      | e => K e st
    | none => genA nw P A b (l + loops a) st K
  | .label _, _, st, K => K .normal st
  | _, _, _, _ => .ff
end

/-- What a function hands back. -/
def resV (P : Program) (st : St) : ResultVar → Option PE
  | .tmp t => opd st [] (.tmp t)
  | .cell a t => (opd st [] (.tmp a)).bind (loadE P st t)
def resVs (P : Program) (st : St) : List ResultVar → Option (List PE)
  | [] => some []
  | r :: rs => match resV P st r, resVs P st rs with
    | some x, some xs => some (x :: xs)
    | _, _ => none
def retE (P : Program) (fn : Func) (st : St) : Fm :=
  match resVs P st fn.results.toList with
  | some [x] => if x.plain then .ret (.p x) else .ff
  | some xs => if xs.all PE.plain then .ret (.tup xs) else .ff
  | none => .ff
/-- A function, handed these. -/
def genFnP (nw : Cfg) (P : Program) (A : Nat → LAnn) (fn : Func) (ps : List PE) (n : Cnt) : Fm :=
  match fn.body with
  | some c =>
    gen nw P A c 0 ⟨ps.map .p ++ List.replicate (fn.ntmps - ps.length) .dead, [], n⟩ fun e st => match e with
      | .normal => retE P fn st
      | .ret => retE P fn st
      | _ => .ff
  | none => .ff
def genFn (nw : Cfg) (P : Program) (A : Nat → LAnn) (fn : Func) : Fm :=
  match freshPs P .zero fn.params.toList with
  | some (ps, n) => genFnP nw P A fn ps n
  | none => .ff
end Go.Proofs.YthlakehilhpojaaDoor
namespace Go.Proofs.YthlakehilhpojaaDoor
open Go.RowKit

/-! ### A loop's head -/
structure GLe (g h : Got) : Prop where
  i : g.i <+: h.i
  b : g.b <+: h.b
  s : g.s <+: h.s
  v : g.v <+: h.v
  l : g.l <+: h.l
  p : g.p <+: h.p
theorem GLe.refl (g : Got) : GLe g g := ⟨List.prefix_refl _, List.prefix_refl _, List.prefix_refl _, List.prefix_refl _, List.prefix_refl _, List.prefix_refl _⟩
theorem GLe.trans {f g h : Got} (p : GLe f g) (q : GLe g h) : GLe f h := ⟨p.i.trans q.i, p.b.trans q.b, p.s.trans q.s, p.v.trans q.v, p.l.trans q.l, p.p.trans q.p⟩
/-- The context of a head: the names stand for what was found. -/
def gotCtx (C0 C : Ctx) (g : Got) : Ctx := (C0.push (g.den C)).heap C.h
theorem getD_app_at {α : Type} {l m t : List α} {x d : α} {j : Nat} (hj : l.length + m.length = j) (h : m ++ [x] <+: t) : (l ++ t).getD j d = x := by
  obtain ⟨u, rfl⟩ := h
  subst hj
  simp [List.getElem?_append_right]
theorem pre_map {α β : Type} {f : α → β} {l m : List α} (h : l <+: m) : l.map f <+: m.map f := by
  obtain ⟨t, rfl⟩ := h
  rw [List.map_append]; exact List.prefix_append _ _
section
variable {n : Cnt} {C0 C : Ctx} {ρ : Nat → Nat}

structure Base (n : Cnt) (C0 C : Ctx) : Prop where
  ext : ExtL C0 C
  has : Has C0 n
theorem gotCtx_ext (C0 C : Ctx) (g : Got) : ExtL C0 (gotCtx C0 C g) := ((Ext.push C0 _).trans (Ext.heap _ _)).toExtL
theorem Base.agr (h : Base n C0 C) (g : Got) : Agr n (gotCtx C0 C g) C := by
  have h1 := (gotCtx_ext C0 C g).agr h.has
  have h2 := h.ext.agr h.has
  exact ⟨fun k hk => (h1.i k hk).symm.trans (h2.i k hk), fun k hk => (h1.b k hk).symm.trans (h2.b k hk), fun k hk => (h1.s k hk).symm.trans (h2.s k hk), fun k hk => (h1.v k hk).symm.trans (h2.v k hk), fun k hk => (h1.l k hk).symm.trans (h2.l k hk), fun k hk => (h1.p k hk).symm.trans (h2.p k hk)⟩

theorem matchC_sound (hB : Base n C0 C) {g g' : Got} {c e : CE} (h : matchC n g c e = some g') : GLe g g' ∧ ∀ G, GLe g' G → (∀ x ∈ G.v, x.plain = true) → c.den (gotCtx C0 C G) ρ = e.den C ρ := by
  unfold matchC at h
  split at h
  · rename_i k j k' e
    split at h
    · rename_i hj
      obtain ⟨hj, rfl⟩ := hj
      cases h
      refine ⟨⟨List.prefix_append _ _, List.prefix_refl _, List.prefix_refl _, List.prefix_refl _, List.prefix_refl _, List.prefix_refl _⟩, fun G hG _ => ?_⟩
      show Value.int k ((C0.i ++ G.i.map (IE.den C)).getD j 0) = _
      rw [getD_app_at (m := g.i.map (IE.den C)) (x := e.den C) (by rw [List.length_map, hB.has.i]; exact hj) (by have := pre_map (f := IE.den C) hG.i; simpa using this)]
      rfl
    · split at h
      · rename_i hq
        obtain ⟨rfl, rfl, hlt⟩ := hq
        cases h
        refine ⟨GLe.refl _, fun G _ _ => ?_⟩
        show Value.int k ((gotCtx C0 C G).i.getD j 0) = Value.int k (C.i.getD j 0)
        rw [(hB.agr G).i j hlt]
      · cases h
  · rename_i j e
    split at h
    · rename_i hj
      cases h
      refine ⟨⟨List.prefix_refl _, List.prefix_append _ _, List.prefix_refl _, List.prefix_refl _, List.prefix_refl _, List.prefix_refl _⟩, fun G hG _ => ?_⟩
      show Value.bool ((C0.b ++ G.b.map (BE.den C)).getD j false) = _
      rw [getD_app_at (m := g.b.map (BE.den C)) (x := e.den C) (by rw [List.length_map, hB.has.b]; exact hj) (by have := pre_map (f := BE.den C) hG.b; simpa using this)]
      rfl
    · split at h
      · rename_i hq
        obtain ⟨rfl, hlt⟩ := hq
        cases h
        refine ⟨GLe.refl _, fun G _ _ => ?_⟩
        show Value.bool ((gotCtx C0 C G).b.getD j false) = Value.bool (C.b.getD j false)
        rw [(hB.agr G).b j hlt]
      · cases h
  · rename_i j e
    split at h
    · rename_i hj
      cases h
      refine ⟨⟨List.prefix_refl _, List.prefix_refl _, List.prefix_append _ _, List.prefix_refl _, List.prefix_refl _, List.prefix_refl _⟩, fun G hG _ => ?_⟩
      show Value.string (B ((C0.s ++ G.s.map (SE.den C)).getD j [])) = _
      rw [getD_app_at (m := g.s.map (SE.den C)) (x := e.den C) (by rw [List.length_map, hB.has.s]; exact hj) (by have := pre_map (f := SE.den C) hG.s; simpa using this)]
      rfl
    · split at h
      · rename_i hq
        obtain ⟨rfl, hlt⟩ := hq
        cases h
        refine ⟨GLe.refl _, fun G _ _ => ?_⟩
        show Value.string (B ((gotCtx C0 C G).s.getD j [])) = Value.string (B (C.s.getD j []))
        rw [(hB.agr G).s j hlt]
      · cases h
  · rename_i j i
    split at h
    · rename_i hj
      cases h
      refine ⟨⟨List.prefix_refl _, List.prefix_refl _, List.prefix_refl _, List.prefix_append _ _, List.prefix_refl _, List.prefix_refl _⟩, fun G hG _ => ?_⟩
      show (C0.v ++ G.v.map (CE.den C noOwn)).getD j undef = _
      rw [getD_app_at (m := g.v.map (CE.den C noOwn)) (x := (CE.v i).den C noOwn) (by rw [List.length_map, hB.has.v]; exact hj) (by have := pre_map (f := CE.den C noOwn) hG.v; simpa using this)]
      rfl
    · split at h
      · rename_i hq
        obtain ⟨rfl, hlt⟩ := hq
        cases h
        exact ⟨GLe.refl _, fun G _ _ => (hB.agr G).v j hlt⟩
      · cases h
  · rename_i j x
    split at h
    · rename_i hj
      cases h
      refine ⟨⟨List.prefix_refl _, List.prefix_refl _, List.prefix_refl _, List.prefix_append _ _, List.prefix_refl _, List.prefix_refl _⟩, fun G hG _ => ?_⟩
      show (C0.v ++ G.v.map (CE.den C noOwn)).getD j undef = _
      rw [getD_app_at (m := g.v.map (CE.den C noOwn)) (x := (CE.c x).den C noOwn) (by rw [List.length_map, hB.has.v]; exact hj) (by have := pre_map (f := CE.den C noOwn) hG.v; simpa using this)]
      rfl
    · cases h
  · rename_i j e
    split at h
    · rename_i hj
      cases h
      refine ⟨⟨List.prefix_refl _, List.prefix_refl _, List.prefix_refl _, List.prefix_refl _, List.prefix_append _ _, List.prefix_refl _⟩, fun G hG _ => ?_⟩
      show ((C0.l ++ G.l.map (LE.den C)).getD j ⟨none, 0, 0⟩).val = _
      rw [getD_app_at (m := g.l.map (LE.den C)) (x := e.den C) (by rw [List.length_map, hB.has.l]; exact hj) (by have := pre_map (f := LE.den C) hG.l; simpa using this)]
      rfl
    · split at h
      · rename_i hq
        obtain ⟨rfl, hlt⟩ := hq
        cases h
        refine ⟨GLe.refl _, fun G _ _ => ?_⟩
        show ((gotCtx C0 C G).l.getD j ⟨none, 0, 0⟩).val = (C.l.getD j ⟨none, 0, 0⟩).val
        rw [(hB.agr G).l j hlt]
      · cases h
  · rename_i j i
    split at h
    · rename_i hj
      cases h
      refine ⟨⟨List.prefix_refl _, List.prefix_refl _, List.prefix_refl _, List.prefix_refl _, List.prefix_refl _, List.prefix_append _ _⟩, fun G hG _ => ?_⟩
      show Value.pointer (((C0.p ++ G.p.map fun c => ptrOf (c.den C noOwn)).getD j none).map fun x => ⟨x.1, x.2, none⟩) = _
      rw [getD_app_at (m := g.p.map fun c => ptrOf (c.den C noOwn)) (x := ptrOf ((CE.pt i).den C noOwn)) (by rw [List.length_map, hB.has.p]; exact hj) (by have := pre_map (f := fun c : CE => ptrOf (c.den C noOwn)) hG.p; simpa using this)]
      show Value.pointer ((ptrOf (Value.pointer ((C.p.getD i none).map fun x => ⟨x.1, x.2, none⟩))).map fun x => (⟨x.1, x.2, none⟩ : Addr)) = Value.pointer ((C.p.getD i none).map fun x => ⟨x.1, x.2, none⟩)
      cases C.p.getD i none <;> rfl
    · split at h
      · rename_i hq
        obtain ⟨rfl, hlt⟩ := hq
        cases h
        refine ⟨GLe.refl _, fun G _ _ => ?_⟩
        show Value.pointer (((gotCtx C0 C G).p.getD j none).map fun x => ⟨x.1, x.2, none⟩) = Value.pointer ((C.p.getD j none).map fun x => ⟨x.1, x.2, none⟩)
        rw [(hB.agr G).p j hlt]
      · cases h
  · rename_i j
    split at h
    · rename_i hj
      cases h
      refine ⟨⟨List.prefix_refl _, List.prefix_refl _, List.prefix_refl _, List.prefix_refl _, List.prefix_refl _, List.prefix_append _ _⟩, fun G hG _ => ?_⟩
      show Value.pointer (((C0.p ++ G.p.map fun c => ptrOf (c.den C noOwn)).getD j none).map fun x => ⟨x.1, x.2, none⟩) = _
      rw [getD_app_at (m := g.p.map fun c => ptrOf (c.den C noOwn)) (x := ptrOf ((CE.c .nilp).den C noOwn)) (by rw [List.length_map, hB.has.p]; exact hj) (by have := pre_map (f := fun c : CE => ptrOf (c.den C noOwn)) hG.p; simpa using this)]
      rfl
    · cases h
  · split at h
    · rename_i hq
      obtain ⟨rfl, hb⟩ := hq
      cases h
      exact ⟨GLe.refl _, fun G _ _ => c.den_blw (hB.agr G) ρ hb⟩
    · cases h
theorem matchL_sound (hB : Base n C0 C) : ∀ {cs es : List CE} {g g' : Got}, matchL n g cs es = some g' → GLe g g' ∧ ∀ G, GLe g' G → (∀ x ∈ G.v, x.plain = true) → cs.map (CE.den (gotCtx C0 C G) ρ) = es.map (CE.den C ρ) := by
  intro cs
  induction cs with
  | nil =>
    intro es g g' h
    cases es with
    | nil => cases h; exact ⟨GLe.refl _, fun _ _ _ => rfl⟩
    | cons _ _ => cases h
  | cons c cs ih =>
    intro es g g' h
    cases es with
    | nil => cases h
    | cons e es =>
      simp only [matchL, Option.bind_eq_some_iff] at h
      obtain ⟨g1, h1, h2⟩ := h
      obtain ⟨a1, b1⟩ := matchC_sound (ρ := ρ) hB h1
      obtain ⟨a2, b2⟩ := ih h2
      exact ⟨a1.trans a2, fun G hG hp => by rw [List.map_cons, List.map_cons, b1 G (a2.trans hG) hp, b2 G hG hp]⟩
theorem matchV_sound (hB : Base n C0 C) {g g' : Got} {c e : VE} (h : matchV n g c e = some g') : GLe g g' ∧ ∀ G, GLe g' G → (∀ x ∈ G.v, x.plain = true) → ∀ (t u : Array Value) x, e.holds C ρ t x → c.holds (gotCtx C0 C G) ρ u x := by
  unfold matchV at h
  split at h
  · cases h; exact ⟨GLe.refl _, fun _ _ _ _ _ _ _ => trivial⟩
  · obtain ⟨h1, h2⟩ := matchC_sound (ρ := ρ) hB h
    exact ⟨h1, fun G hG hp t u x hx => by show _ = _; rw [show PE.den (gotCtx C0 C G) ρ (.one _) = _ from h2 G hG hp]; exact hx⟩
  · obtain ⟨h1, h2⟩ := matchL_sound (ρ := ρ) hB h
    exact ⟨h1, fun G hG hp t u x hx => by show _ = Value.agg _; rw [h2 G hG hp]; exact hx⟩
  · cases h
theorem matchT_sound (hB : Base n C0 C) : ∀ {cs es : List VE} {g g' : Got}, matchT n g cs es = some g' → GLe g g' ∧ cs.length = es.length ∧ ∀ G, GLe g' G → (∀ x ∈ G.v, x.plain = true) → ∀ (t u : Array Value) (i : Nat) c, cs[i]? = some c → ∃ e, es[i]? = some e ∧ ∀ x, e.holds C ρ t x → c.holds (gotCtx C0 C G) ρ u x := by
  intro cs
  induction cs with
  | nil =>
    intro es g g' h
    cases es with
    | nil => cases h; exact ⟨GLe.refl _, rfl, fun _ _ _ _ _ _ _ h => by simp at h⟩
    | cons _ _ => cases h
  | cons c cs ih =>
    intro es g g' h
    cases es with
    | nil => cases h
    | cons e es =>
      simp only [matchT, Option.bind_eq_some_iff] at h
      obtain ⟨g1, h1, h2⟩ := h
      obtain ⟨a1, b1⟩ := matchV_sound (ρ := ρ) hB h1
      obtain ⟨a2, l2, b2⟩ := ih h2
      refine ⟨a1.trans a2, by simp [l2], fun G hG hp t u i d hd => ?_⟩
      cases i with
      | zero =>
        simp at hd; subst hd
        exact ⟨e, rfl, fun x hx => b1 G (a2.trans hG) hp t u x hx⟩
      | succ i => exact b2 G hG hp t u i d (by simpa using hd)
theorem matchM_sound (hB : Base n C0 C) : ∀ {cs es : List Blk} {g g' : Got}, matchM n g cs es = some g' → GLe g g' ∧ cs.length ≤ es.length ∧ ∀ G, GLe g' G → (∀ x ∈ G.v, x.plain = true) → ∀ (k : Nat) c, cs[k]? = some c → ∃ e, es[k]? = some e ∧ c.ty = e.ty ∧ c.cells.map (CE.den (gotCtx C0 C G) ρ) = e.cells.map (CE.den C ρ) := by
  intro cs
  induction cs with
  | nil => intro es g g' h; cases h; exact ⟨GLe.refl _, Nat.zero_le _, fun _ _ _ _ _ h => by simp at h⟩
  | cons c cs ih =>
    intro es g g' h
    cases es with
    | nil => cases h
    | cons e es =>
      simp only [matchM] at h
      split at h
      · rename_i hty
        simp only [Option.bind_eq_some_iff] at h
        obtain ⟨g1, h1, h2⟩ := h
        obtain ⟨a1, b1⟩ := matchL_sound (ρ := ρ) hB h1
        obtain ⟨a2, l2, b2⟩ := ih h2
        refine ⟨a1.trans a2, by simp; exact l2, fun G hG hp k d hd => ?_⟩
        cases k with
        | zero =>
          simp at hd; subst hd
          exact ⟨e, rfl, hty, b1 G (a2.trans hG) hp⟩
        | succ k => exact b2 G hG hp k d (by simpa using hd)
      · cases h
end

section
variable {P : Program} {E : Env} {B : Nat} {h0 : Hp} {w0 : World} {ρ : Nat → Nat} {st : St} {C : Ctx} {a : Act} {w : World}

theorem fits_ones {g : Got} {st : St} (R : Rep B h0 w0 ρ st C a w) (hf : g.fits st.n = true) : (∀ x ∈ g.v, x.plain = true) ∧ Ones (g.v.map (CE.den C noOwn)) := by
  unfold Got.fits at hf
  have h := List.all_eq_true.1 hf
  refine ⟨fun x hx => ?_, fun u hu => ?_⟩
  · have := h x hx
    simp only [Bool.and_eq_true] at this
    exact this.1
  · obtain ⟨c, hc, rfl⟩ := List.mem_map.1 hu
    have := h c hc
    simp only [CE.sto, Bool.and_eq_true, decide_eq_true_eq, Bool.not_eq_true'] at this
    exact ce_one R.ones noOwn c st.n R.cv.symm this.2.1.1 this.2.1.2 this.2.2
theorem Got.den_cnt (g : Got) (C : Ctx) : (g.den C).cnt = g.cnt := by simp [Got.den, Got.cnt, Inc.cnt]
/-- What stands for a round's end stands for the head, at what the names have become. -/
theorem match_rep {C0 : Ctx} {n : Cnt} {hd st : St} {g : Got} (R : Rep B h0 w0 ρ st C a w) (hB : Base n C0 C) (ho0 : Ones C0.v) (h : matchSt n hd st = some g) (hf : g.fits st.n = true) (hn : hd.n = n.add g.cnt) : Rep B h0 w0 ρ hd (gotCtx C0 C g) a w := by
  unfold matchSt at h
  simp only [Option.bind_eq_some_iff] at h
  obtain ⟨g1, h1, h2⟩ := h
  obtain ⟨a1, l1, b1⟩ := matchT_sound (ρ := ρ) hB h1
  obtain ⟨a2, l2, b2⟩ := matchM_sound (ρ := ρ) hB h2
  obtain ⟨hp, hones⟩ := fits_ones R hf
  have H : Has (gotCtx C0 C g) hd.n := (hB.has.push (by rw [Got.den_cnt]; exact hn.symm)).heap _
  refine ⟨R.defers, by rw [R.size, l1], ?_, ?_, fun k hk => R.fresh k (by omega), fun k j hk hj => R.inj k j (by omega) (by omega), fun k hk => R.free k (by omega), R.holds, R.fr, R.base, H.i, H.b, H.s, H.v, H.l, H.p, ones_push ho0 hones⟩
  · intro i v hv
    obtain ⟨e, he, hh⟩ := b1 g a2 hp a.tmps a.tmps i v hv
    exact hh _ (R.slots i e he)
  · intro k b hb
    obtain ⟨e, he, hty, hc⟩ := b2 g (GLe.refl _) hp k b hb
    rw [R.blocks k e he, hty, hc]

/-! ### Code -/
/-- What follows; l: the loops from there on may have been marked. -/
def After (E : Env) (B : Nat) (h0 : Hp) (w0 : World) (l : Nat) (C0 : Ctx) (K : Exit → St → Fm) (e : Exit) (a : Act) (w : World) : Prop :=
  ∃ ρ st D, ExtL C0 D ∧ (∀ k, k < l → D.m k = C0.m k) ∧ Rep B h0 w0 ρ st D a w ∧ (K e st).says E D
theorem After.ext {l l' : Nat} {C0 D : Ctx} {K : Exit → St → Fm} {e : Exit} (hx : ExtL C0 D) (hl : l ≤ l') (hm : ∀ k, k < l → D.m k = C0.m k) (h : After E B h0 w0 l' D K e a w) : After E B h0 w0 l C0 K e a w := by
  obtain ⟨ρ, st, F, h1, h2, h3, h4⟩ := h
  exact ⟨ρ, st, F, hx.trans h1, fun k hk => (h2 k (by omega)).trans (hm k hk), h3, h4⟩
theorem cut_ext {C D : Ctx} {n : Cnt} (hx : ExtL C D) (H : Has C n) : D.cut n = ⟨C.i, C.b, C.s, C.v, C.l, C.p, D.h, D.m⟩ := by
  obtain ⟨⟨t1, h1⟩, ⟨t2, h2⟩, ⟨t3, h3⟩, ⟨t4, h4⟩, ⟨t5, h5⟩, ⟨t6, h6⟩⟩ := hx
  obtain ⟨a1, a2, a3, a4, a5, a6⟩ := H
  cases C; cases D
  simp only at h1 h2 h3 h4 h5 h6 a1 a2 a3 a4 a5 a6
  subst h1 h2 h3 h4 h5 h6
  simp [Ctx.cut, ← a1, ← a2, ← a3, ← a4, ← a5, ← a6]
theorem ext_push {C D : Ctx} {n m k : Cnt} (hx : ExtL C D) (H : Has C n) (K : Has D m) (hm : m = n.add k) (ho : Ones D.v) : ∃ x : Inc, Same ((C.push x).heap D.h) D ∧ x.cnt = k ∧ Ones x.v := by
  obtain ⟨⟨t1, h1⟩, ⟨t2, h2⟩, ⟨t3, h3⟩, ⟨t4, h4⟩, ⟨t5, h5⟩, ⟨t6, h6⟩⟩ := hx
  obtain ⟨a1, a2, a3, a4, a5, a6⟩ := H
  obtain ⟨b1, b2, b3, b4, b5, b6⟩ := K
  subst hm
  cases C; cases D
  simp only at h1 h2 h3 h4 h5 h6 a1 a2 a3 a4 a5 a6
  subst h1 h2 h3 h4 h5 h6
  simp only [List.length_append, Cnt.add] at b1 b2 b3 b4 b5 b6
  refine ⟨⟨t1, t2, t3, t4, t5, t6⟩, ⟨rfl, rfl, rfl, rfl, rfl, rfl⟩, ?_, fun u hu => ho u (List.mem_append_right _ hu)⟩
  cases k
  simp only [Inc.cnt, Cnt.mk.injEq]
  simp only at b1 b2 b3 b4 b5 b6
  omega

/-- From the label on: what holds behind it. -/
def wpA (P : Program) : Code → (Exit → Act → World → Prop) → Act → World → Prop
  | .seq x y, Q, a, w => match hasL x with
    | some _ => wpA P x (Exit.then (y.wp P Q) Q) a w
    | none => wpA P y Q a w
  | .label _, Q, a, w => Q .normal a w
  | _, _, _, _ => False
theorem then_mono {Q Q' : Exit → Act → World → Prop} {K K' : Act → World → Prop} (hq : ∀ e a w, Q e a w → Q' e a w) (hk : ∀ a w, K a w → K' a w) : ∀ e a w, Exit.then K Q e a w → Exit.then K' Q' e a w := by
  intro e a w h
  cases e with
  | normal => exact hk a w h
  | exit id => exact hq _ a w h
  | goto l => exact hq _ a w h
  | ret => exact hq _ a w h
  | panic ch => exact hq _ a w h
  | outgrown => exact hq _ a w h
theorem wpA_mono (c : Code) : ∀ {Q Q' : Exit → Act → World → Prop} {a : Act} {w : World}, wpA P c Q a w → (∀ e a w, Q e a w → Q' e a w) → wpA P c Q' a w := by
  induction c with
  | seq x y ihx ihy =>
    intro Q Q' a w h hq
    rw [wpA] at h ⊢
    split at h
    · exact ihx h (then_mono hq (fun a w h => wp_mono h hq))
    · exact ihy h hq
  | label l => intro Q Q' a w h hq; exact hq _ a w h
  | _ => intro Q Q' a w h hq; exact h.elim
theorem hasL_find (c : Code) : ∀ {l : Nat}, hasL c = some l → ∃ rest, findLabel c l = some rest := by
  induction c with
  | seq x y ihx ihy =>
    intro l h
    rw [hasL] at h
    split at h
    · rename_i l' hx
      cases h
      obtain ⟨r, hr⟩ := ihx hx
      exact ⟨_, by rw [findLabel, hr]⟩
    · rename_i hx
      obtain ⟨r, hr⟩ := ihy h
      rw [findLabel]
      cases hq : findLabel x l with
      | some r' => exact ⟨_, rfl⟩
      | none => exact ⟨r, hr⟩
  | label m => intro l h; cases h; exact ⟨.skip, by simp [findLabel]⟩
  | _ => intro l h; cases h
theorem find_hasL (c : Code) : ∀ {l : Nat}, hasL c = none → findLabel c l = none := by
  induction c with
  | seq x y ihx ihy =>
    intro l h
    rw [hasL] at h
    split at h
    · cases h
    · rename_i hx
      rw [findLabel, ihx hx]
      exact ihy h
  | label m => intro l h; cases h
  | _ => intro l h; rfl
theorem wpA_find (c : Code) : ∀ {Q : Exit → Act → World → Prop} {a : Act} {w : World} {l : Nat} {rest : Code}, wpA P c Q a w → hasL c = some l → findLabel c l = some rest → rest.wp P Q a w := by
  induction c with
  | seq x y ihx ihy =>
    intro Q a w l rest h hl hf
    rw [wpA] at h
    rw [hasL] at hl
    rw [findLabel] at hf
    split at h
    · rename_i l' hx
      rw [hx] at hl
      cases hl
      obtain ⟨r, hr⟩ := hasL_find x hx
      rw [hr] at hf
      cases hf
      exact wp_seq (ihx h hx hr)
    · rename_i hx
      rw [hx] at hl
      rw [find_hasL x hx] at hf
      exact ihy h hl hf
  | label m =>
    intro Q a w l rest h hl hf
    cases hl
    simp [findLabel] at hf
    subst hf
    exact wp_skip h
  | _ => intro Q a w l rest h; exact h.elim

/-- A loop's round is over. -/
theorem again_sound {C0 : Ctx} {st0 : St} {A : LAnn} {l : Nat} {D D' : Ctx} {st' : St} (H0 : Has C0 st0.n) (ho0 : Ones C0.v) (hx : ExtL C0 D) (hx' : ExtL D D') (R' : Rep B h0 w0 ρ st' D' a w)
    (hm : D'.m l = E.meas l D.bare) (hs : (againF l st0.n (headSt A st0) st').says E D') :
    ∃ F, ExtL C0 F ∧ F.m = C0.m ∧ Rep B h0 w0 ρ (headSt A st0) F a w ∧ E.inv l F.bare ∧ E.meas l F.bare < E.meas l D.bare := by
  unfold againF at hs
  split at hs
  · rename_i g' hg'
    split at hs
    · exact hs.elim
    · rename_i hck'
      simp only [Bool.not_eq_true, Bool.not_eq_false', Bool.and_eq_true, decide_eq_true_eq] at hck'
      obtain ⟨hinv', hmeas⟩ := hs
      have e1 := cut_ext (hx.trans hx') H0
      have hB' : Base st0.n C0 D' := ⟨hx.trans hx', H0⟩
      have R2 := match_rep R' hB' ho0 hg' hck'.1 hck'.2
      have e2 : ((D'.cut st0.n).push (g'.den D')).bare = (gotCtx C0 D' g').bare := by rw [e1]; rfl
      rw [e2] at hinv' hmeas
      exact ⟨_, gotCtx_ext _ _ _, rfl, R2, hinv', by rw [← hm]; exact hmeas⟩
  · exact hs.elim
/-- A loop begins. -/
theorem loop_sound {A : LAnn} {l : Nat} {F : St → Fm} (R : Rep B h0 w0 ρ st C a w) (hs : (loopF l A st F).says E C) :
    ∃ D, ExtL C D ∧ D.m = C.m ∧ Rep B h0 w0 ρ (headSt A st) D a w ∧ E.inv l D.bare ∧ ∀ ρ D a w, ExtL C D → D.m = C.m → Rep B h0 w0 ρ (headSt A st) D a w → E.inv l D.bare → (F (headSt A st)).says E (D.mark l (E.meas l D.bare)) := by
  unfold loopF at hs
  split at hs
  · rename_i g hg
    split at hs
    · exact hs.elim
    · rename_i hck
      simp only [Bool.not_eq_true, Bool.not_eq_false', Bool.and_eq_true, decide_eq_true_eq] at hck
      obtain ⟨hfit, hn⟩ := hck
      obtain ⟨hinv, hall⟩ := hs
      have hB : Base st.n C C := ⟨ExtL.refl C, R.has⟩
      have R1 := match_rep R hB R.ones hg hfit hn
      refine ⟨_, gotCtx_ext _ _ _, rfl, R1, hinv, fun ρ D a w hx hm RD hi => ?_⟩
      rw [allI_iff] at hall
      obtain ⟨x, hDe, hxc, hxo⟩ := ext_push hx R.has RD.has hn RD.ones
      have e : (C.push x).heap D.h = D := by
        obtain ⟨e1, e2, e3, e4, e5, e6⟩ := hDe
        cases D
        simp only [Ctx.push, Ctx.heap] at e1 e2 e3 e4 e5 e6 hm ⊢
        subst hm
        simp only [e1, e2, e3, e4, e5, e6]
      have := hall x hxc hxo D.h
      rw [e] at this
      exact this hi
  · exact hs.elim
theorem mark_other (C : Ctx) {l n k : Nat} (h : k ≠ l) : (C.mark l n).m k = C.m k := by simp [Ctx.mark, h]
theorem mark_at (C : Ctx) (l n : Nat) : (C.mark l n).m l = n := by simp [Ctx.mark]
theorem Rep.mark (R : Rep B h0 w0 ρ st C a w) (l n : Nat) : Rep B h0 w0 ρ st (C.mark l n) a w := R.same ⟨rfl, rfl, rfl, rfl, rfl, rfl⟩ rfl
theorem ExtL.mark (C : Ctx) (l n : Nat) : ExtL C (C.mark l n) := ⟨List.prefix_refl _, List.prefix_refl _, List.prefix_refl _, List.prefix_refl _, List.prefix_refl _, List.prefix_refl _⟩
/-- A scope in which the run jumps back to one label, with a number that each pass lowers. -/
theorem wp_scope_ghost {Q : Exit → Act → World → Prop} {c rest : Code} (l : Nat) (I : Nat → Act → World → Prop) (hf : findLabel c l = some rest)
    (first : c.wp P (Exit.jump l (fun a w => ∃ n, I n a w) Q) a w)
    (pass : ∀ n a w, I n a w → rest.wp P (Exit.jump l (fun a' w' => ∃ n', n' < n ∧ I n' a' w') Q) a w) : (Code.scope c).wp P Q a w := by
  refine wp_scope_jumps l (fun a w => ∃ n, I n a w) (fun a w => leastOf (fun n => I n a w)) hf first ?_
  intro a w hI
  refine wp_mono (pass _ a w (leastOf_spec hI).1) ?_
  intro e a' w' hq
  cases e with
  | goto j =>
    obtain ⟨hj, n', hlt, hI'⟩ := hq
    exact ⟨hj, ⟨n', hI'⟩, Nat.lt_of_le_of_lt ((leastOf_spec ⟨n', hI'⟩).2 n' hI') hlt⟩
  | normal => exact hq
  | exit id => exact hq
  | ret => exact hq
  | panic ch => exact hq
  | outgrown => exact hq

theorem gen_sounds (hE : Good P E) (nw : Cfg) (A : Nat → LAnn) (c : Code) :
    (∀ (l : Nat) (st : St) (K : Exit → St → Fm) (ρ : Nat → Nat) (C : Ctx) (a : Act) (w : World), Rep B h0 w0 ρ st C a w → (gen nw P A c l st K).says E C → c.wp P (After E B h0 w0 l C K) a w) ∧
    (∀ (l : Nat) (st : St) (K : Exit → St → Fm) (ρ : Nat → Nat) (C : Ctx) (a : Act) (w : World) (Q : Exit → Act → World → Prop), Rep B h0 w0 ρ st C a w → (genB nw P A c l st K).says E C →
      (∀ ρ st D a w, ExtL C D → (∀ k, k < l → D.m k = C.m k) → Rep B h0 w0 ρ st D a w → (K .normal st).says E D → wpA P c Q a w) →
      (∀ e, e ≠ .normal → ∀ ρ st D a w, ExtL C D → (∀ k, k < l → D.m k = C.m k) → Rep B h0 w0 ρ st D a w → (K e st).says E D → Q e a w) → c.wp P Q a w) ∧
    (∀ (l : Nat) (st : St) (K : Exit → St → Fm) (ρ : Nat → Nat) (C : Ctx) (a : Act) (w : World), Rep B h0 w0 ρ st C a w → (genA nw P A c l st K).says E C → wpA P c (After E B h0 w0 l C K) a w) := by
  induction c with
  | skip => exact ⟨fun l st K ρ C a w R hs => wp_skip ⟨ρ, st, C, ExtL.refl C, fun _ _ => rfl, R, hs⟩, fun l st K ρ C a w Q R hs => (hs : False).elim, fun l st K ρ C a w R hs => (hs : False).elim⟩
  | region id ops draw =>
    refine ⟨?_, fun l st K ρ C a w Q R hs => (hs : False).elim, fun l st K ρ C a w R hs => (hs : False).elim⟩
    intro l st K ρ C a w R hs
    cases draw with
    | true =>
      simp only [gen] at hs
      split at hs
      · rename_i hm
        exact draw_sound hm hE R hs fun ρ st D a w hx R hs => ⟨ρ, st, D, hx.toExtL, fun _ _ => by rw [hx.m], R, hs⟩
      · exact (hs : False).elim
    | false =>
      refine wp_region_list ?_
      simp only [gen] at hs
      exact genOps_sound hE ops.toList R hs fun ρ st D a w hx R hs => ⟨ρ, st, D, hx.toExtL, fun _ _ => by rw [hx.m], R, hs⟩
  | seq x y ihx ihy =>
    have hgen : ∀ (l : Nat) (st : St) (K : Exit → St → Fm) (ρ : Nat → Nat) (C : Ctx) (a : Act) (w : World), Rep B h0 w0 ρ st C a w → (gen nw P A (.seq x y) l st K).says E C → (Code.seq x y).wp P (After E B h0 w0 l C K) a w := by
      intro l st K ρ C a w R hs
      rw [gen] at hs
      refine wp_seq ?_
      refine wp_mono (ihx.1 l st _ ρ C a w R hs) ?_
      rintro e a w ⟨ρ, st, D, hx, hm, R, hs⟩
      cases e with
      | normal => exact wp_mono (ihy.1 _ st K ρ D a w R hs) fun e a w h => h.ext hx (by omega) hm
      | exit id => exact ⟨ρ, st, D, hx, hm, R, hs⟩
      | goto l => exact ⟨ρ, st, D, hx, hm, R, hs⟩
      | ret => exact ⟨ρ, st, D, hx, hm, R, hs⟩
      | panic ch => exact ⟨ρ, st, D, hx, hm, R, hs⟩
      | outgrown => exact ⟨ρ, st, D, hx, hm, R, hs⟩
    refine ⟨hgen, ?_, ?_⟩
    · intro l st K ρ C a w Q R hs hn ho
      rw [genB] at hs
      refine wp_seq ?_
      split at hs
      · rename_i l' hl
        refine ihx.2.1 l st K ρ C a w _ R hs (fun ρ st D a w hx hm R hs => ?_) (fun e he ρ st D a w hx hm R hs => ?_)
        · have := hn ρ st D a w hx hm R hs
          rw [wpA, hl] at this
          exact this
        · have := ho e he ρ st D a w hx hm R hs
          cases e with
          | normal => exact absurd rfl he
          | exit id => exact this
          | goto l => exact this
          | ret => exact this
          | panic ch => exact this
          | outgrown => exact this
      · rename_i hl
        refine wp_mono (ihx.1 l st _ ρ C a w R hs) ?_
        rintro e a w ⟨ρ, st, D, hx, hm, R, hs⟩
        cases e with
        | normal =>
          refine ihy.2.1 _ st K ρ D a w Q R hs (fun ρ st F a w hx2 hm2 R hs => ?_) (fun e he ρ st F a w hx2 hm2 R hs => ho e he ρ st F a w (hx.trans hx2) (fun k hk => (hm2 k (by omega)).trans (hm k hk)) R hs)
          have := hn ρ st F a w (hx.trans hx2) (fun k hk => (hm2 k (by omega)).trans (hm k hk)) R hs
          rw [wpA, hl] at this
          exact this
        | exit id => exact ho _ (by simp) ρ st D a w hx hm R hs
        | goto l => exact ho _ (by simp) ρ st D a w hx hm R hs
        | ret => exact ho _ (by simp) ρ st D a w hx hm R hs
        | panic ch => exact ho _ (by simp) ρ st D a w hx hm R hs
        | outgrown => exact ho _ (by simp) ρ st D a w hx hm R hs
    · intro l st K ρ C a w R hs
      rw [genA] at hs
      rw [wpA]
      split at hs
      · rename_i l' hl
        rw [hl]
        refine wpA_mono x (ihx.2.2 l st _ ρ C a w R hs) ?_
        rintro e a w ⟨ρ, st, D, hx, hm, R, hs⟩
        cases e with
        | normal => exact wp_mono (ihy.1 _ st K ρ D a w R hs) fun e a w h => h.ext hx (by omega) hm
        | exit id => exact ⟨ρ, st, D, hx, hm, R, hs⟩
        | goto l => exact ⟨ρ, st, D, hx, hm, R, hs⟩
        | ret => exact ⟨ρ, st, D, hx, hm, R, hs⟩
        | panic ch => exact ⟨ρ, st, D, hx, hm, R, hs⟩
        | outgrown => exact ⟨ρ, st, D, hx, hm, R, hs⟩
      · rename_i hl
        rw [hl]
        exact wpA_mono y (ihy.2.2 _ st K ρ C a w R hs) fun e a w h => h.ext (ExtL.refl C) (by omega) (fun _ _ => rfl)
  | cond c x y ihx ihy =>
    refine ⟨?_, fun l st K ρ C a w Q R hs => (hs : False).elim, fun l st K ρ C a w R hs => (hs : False).elim⟩
    intro l st K ρ C a w R hs
    simp only [gen] at hs
    split at hs
    · rename_i hc
      have := opd_eval R (conds_nil _) hc
      exact wp_cond_true this (ihx.1 l st K ρ C a w R hs)
    · rename_i hc
      have := opd_eval R (conds_nil _) hc
      exact wp_cond_false this (wp_mono (ihy.1 _ st K ρ C a w R hs) fun e a w h => h.ext (ExtL.refl C) (by omega) (fun _ _ => rfl))
    · rename_i e h1 h2 hc
      have := opd_eval R (conds_nil _) hc
      exact wp_cond_split this (fun ht => ihx.1 l st K ρ C a w R (hs.1 ht)) (fun hf => wp_mono (ihy.1 _ st K ρ C a w R (hs.2 hf)) fun e a w h => h.ext (ExtL.refl C) (by omega) (fun _ _ => rfl))
    · exact hs.elim
  | block id c ih =>
    refine ⟨?_, fun l st K ρ C a w Q R hs => (hs : False).elim, fun l st K ρ C a w R hs => (hs : False).elim⟩
    intro l st K ρ C a w R hs
    rw [gen] at hs
    refine wp_block ?_
    refine wp_mono (ih.1 l st _ ρ C a w R hs) ?_
    rintro e a w ⟨ρ, st, D, hx, hm, R, hs⟩
    cases e with
    | exit j =>
      simp only [Exit.inBlock]
      simp only at hs
      split at hs
      · rename_i h; rw [if_pos h]; exact ⟨ρ, st, D, hx, hm, R, hs⟩
      · rename_i h; rw [if_neg h]; exact ⟨ρ, st, D, hx, hm, R, hs⟩
    | normal => exact ⟨ρ, st, D, hx, hm, R, hs⟩
    | goto l => exact ⟨ρ, st, D, hx, hm, R, hs⟩
    | ret => exact ⟨ρ, st, D, hx, hm, R, hs⟩
    | panic ch => exact ⟨ρ, st, D, hx, hm, R, hs⟩
    | outgrown => exact ⟨ρ, st, D, hx, hm, R, hs⟩
  | loop c ih =>
    refine ⟨?_, fun l st K ρ C a w Q R hs => (hs : False).elim, fun l st K ρ C a w R hs => (hs : False).elim⟩
    intro l st K ρ C a w R hs
    rw [gen] at hs
    obtain ⟨D0, hx0, hm0, R0, hi0, hbody⟩ := loop_sound R hs
    refine wp_loop_ghost (fun m a w => ∃ ρ D, ExtL C D ∧ D.m = C.m ∧ Rep B h0 w0 ρ (headSt (A l) st) D a w ∧ E.inv l D.bare ∧ E.meas l D.bare = m) (E.meas l D0.bare) ⟨ρ, D0, hx0, hm0, R0, hi0, rfl⟩ ?_
    rintro m a w ⟨ρ, D, hx, hmD, RD, hi, rfl⟩
    refine wp_mono (ih.1 (l + 1) _ _ ρ (D.mark l (E.meas l D.bare)) a w (RD.mark _ _) (hbody ρ D a w hx hmD RD hi)) ?_
    rintro e a w ⟨ρ, st', D', hx', hm', R', hs'⟩
    have hxD' : ExtL D D' := (ExtL.mark D _ _).trans hx'
    have hmm : ∀ k, k < l → D'.m k = C.m k := fun k hk => by rw [hm' k (by omega), mark_other D (by omega), hmD]
    cases e with
    | normal =>
      obtain ⟨F, h1, h1', h2, h3, h4⟩ := again_sound R.has R.ones hx hxD' R' (by rw [hm' l (by omega), mark_at]) hs'
      exact ⟨_, h4, ρ, F, h1, h1', h2, h3, rfl⟩
    | exit id => exact ⟨ρ, st', D', hx.trans hxD', hmm, R', hs'⟩
    | goto l => exact ⟨ρ, st', D', hx.trans hxD', hmm, R', hs'⟩
    | ret => exact ⟨ρ, st', D', hx.trans hxD', hmm, R', hs'⟩
    | panic ch => exact ⟨ρ, st', D', hx.trans hxD', hmm, R', hs'⟩
    | outgrown => exact ⟨ρ, st', D', hx.trans hxD', hmm, R', hs'⟩
  | scope c ih =>
    refine ⟨?_, fun l st K ρ C a w Q R hs => (hs : False).elim, fun l st K ρ C a w R hs => (hs : False).elim⟩
    intro l st K ρ C a w R hs
    rw [gen] at hs
    split at hs
    · exact hs.elim
    · rename_i lb hlb
      obtain ⟨rest, hf⟩ := hasL_find c hlb
      -- what holds at the label
      let I : Nat → Act → World → Prop := fun m a w => ∃ st1 C1 ρ D, ExtL C C1 ∧ (∀ k, k < l → C1.m k = C.m k) ∧ Has C1 st1.n ∧ Ones C1.v ∧ ExtL C1 D ∧ D.m = C1.m ∧ Rep B h0 w0 ρ (headSt (A l) st1) D a w ∧ E.inv l D.bare ∧ E.meas l D.bare = m ∧
        ∀ ρ D a w, ExtL C1 D → D.m = C1.m → Rep B h0 w0 ρ (headSt (A l) st1) D a w → E.inv l D.bare → (genA nw P A c (l + 1) (headSt (A l) st1) fun e st' => match e with
          | .goto j => if j = lb then againF l st1.n (headSt (A l) st1) st' else .ff
          | e => K e st').says E (D.mark l (E.meas l D.bare))
      have pass : ∀ m a w, I m a w → wpA P c (Exit.jump lb (fun a' w' => ∃ n', n' < m ∧ I n' a' w') (After E B h0 w0 l C K)) a w := by
        rintro m a w ⟨st1, C1, ρ, D, hC1, hmC, H1, ho1, hx, hmD, RD, hi, rfl, hbody⟩
        refine wpA_mono c (ih.2.2 (l + 1) _ _ ρ (D.mark l (E.meas l D.bare)) a w (RD.mark _ _) (hbody ρ D a w hx hmD RD hi)) ?_
        rintro e a w ⟨ρ, st', D', hx', hm', R', hs'⟩
        have hxD' : ExtL D D' := (ExtL.mark D _ _).trans hx'
        have hmm : ∀ k, k < l → D'.m k = C.m k := fun k hk => by rw [hm' k (by omega), mark_other D (by omega), hmD, hmC k hk]
        cases e with
        | goto j =>
          simp only at hs'
          split at hs'
          · rename_i hj
            obtain ⟨F, h1, h1', h2, h3, h4⟩ := again_sound H1 ho1 hx hxD' R' (by rw [hm' l (by omega), mark_at]) hs'
            exact ⟨hj, _, h4, st1, C1, ρ, F, hC1, hmC, H1, ho1, h1, h1', h2, h3, rfl, hbody⟩
          · exact (hs' : False).elim
        | normal => exact ⟨ρ, st', D', (hC1.trans hx).trans hxD', hmm, R', hs'⟩
        | exit id => exact ⟨ρ, st', D', (hC1.trans hx).trans hxD', hmm, R', hs'⟩
        | ret => exact ⟨ρ, st', D', (hC1.trans hx).trans hxD', hmm, R', hs'⟩
        | panic ch => exact ⟨ρ, st', D', (hC1.trans hx).trans hxD', hmm, R', hs'⟩
        | outgrown => exact ⟨ρ, st', D', (hC1.trans hx).trans hxD', hmm, R', hs'⟩
      refine wp_scope_ghost lb I hf ?_ (fun m a w hI => wpA_find c (pass m a w hI) hlb hf)
      refine ih.2.1 (l + 1) st _ ρ C a w _ R hs (fun ρ st1 C1 a w hx hm1 R1 hs1 => ?_) (fun e he ρ st1 C1 a w hx hm1 R1 hs1 => ?_)
      · obtain ⟨D0, hx0, hm0, R0, hi0, hbody⟩ := loop_sound R1 hs1
        refine wpA_mono c (pass _ a w ⟨st1, C1, ρ, D0, hx, fun k hk => hm1 k (by omega), R1.has, R1.ones, hx0, hm0, R0, hi0, rfl, hbody⟩) ?_
        intro e a w h
        cases e with
        | goto j => exact ⟨h.1, h.2.choose, h.2.choose_spec.2⟩
        | normal => exact h
        | exit id => exact h
        | ret => exact h
        | panic ch => exact h
        | outgrown => exact h
      · cases e with
        | normal => exact absurd rfl he
        | goto j => exact (hs1 : False).elim
        | exit id => exact ⟨ρ, st1, C1, hx, fun k hk => hm1 k (by omega), R1, hs1⟩
        | ret => exact ⟨ρ, st1, C1, hx, fun k hk => hm1 k (by omega), R1, hs1⟩
        | panic ch => exact ⟨ρ, st1, C1, hx, fun k hk => hm1 k (by omega), R1, hs1⟩
        | outgrown => exact ⟨ρ, st1, C1, hx, fun k hk => hm1 k (by omega), R1, hs1⟩
  | exit id => exact ⟨fun l st K ρ C a w R hs => wp_exit ⟨ρ, st, C, ExtL.refl C, fun _ _ => rfl, R, hs⟩, fun l st K ρ C a w Q R hs => (hs : False).elim, fun l st K ρ C a w R hs => (hs : False).elim⟩
  | ret => exact ⟨fun l st K ρ C a w R hs => wp_ret ⟨ρ, st, C, ExtL.refl C, fun _ _ => rfl, R, hs⟩, fun l st K ρ C a w Q R hs => (hs : False).elim, fun l st K ρ C a w R hs => (hs : False).elim⟩
  | rangeFunc f p x y _ _ => exact ⟨fun l st K ρ C a w R hs => (hs : False).elim, fun l st K ρ C a w Q R hs => (hs : False).elim, fun l st K ρ C a w R hs => (hs : False).elim⟩
  | label m =>
    refine ⟨fun l st K ρ C a w R hs => (hs : False).elim, fun l st K ρ C a w Q R hs hn ho => ?_, fun l st K ρ C a w R hs => ?_⟩
    · exact wp_label (hn ρ st C a w (ExtL.refl C) (fun _ _ => rfl) R hs)
    · exact ⟨ρ, st, C, ExtL.refl C, fun _ _ => rfl, R, hs⟩
  | goto m => exact ⟨fun l st K ρ C a w R hs => wp_goto ⟨ρ, st, C, ExtL.refl C, fun _ _ => rfl, R, hs⟩, fun l st K ρ C a w Q R hs => (hs : False).elim, fun l st K ρ C a w R hs => (hs : False).elim⟩
  | refuse s => exact ⟨fun l st K ρ C a w R hs => (hs : False).elim, fun l st K ρ C a w Q R hs => (hs : False).elim, fun l st K ρ C a w R hs => (hs : False).elim⟩
theorem gen_sound (hE : Good P E) (nw : Cfg) (A : Nat → LAnn) (c : Code) (l : Nat) (st : St) (K : Exit → St → Fm) (ρ : Nat → Nat) (C : Ctx) (a : Act) (w : World) (R : Rep B h0 w0 ρ st C a w) (hs : (gen nw P A c l st K).says E C) :
    c.wp P (After E B h0 w0 l C K) a w := (gen_sounds hE nw A c).1 l st K ρ C a w R hs
end
end Go.Proofs.YthlakehilhpojaaDoor
namespace Go.Proofs.YthlakehilhpojaaDoor
open Go.RowKit

section
variable {P : Program} {E : Env} {B : Nat} {h0 : Hp} {w0 : World} {ρ : Nat → Nat} {st : St} {C : Ctx} {a : Act} {w : World}
/-- A function's result, as the model takes it. -/
def resS (t : Array Value) : ResultVar → Sem Value
  | .tmp s => pure (t.getD s undef)
  | .cell x ty => do loadVar ty (← asAddr (t.getD x undef))
theorem results_eq (fn : Func) (t : Array Value) : results fn t = (do let vs ← fn.results.mapM (resS t); pure (if h : vs.size = 1 then vs[0] else .tuple vs)) := by
  unfold results
  congr 1
theorem resV_run (R : Rep B h0 w0 ρ st C a w) {r : ResultVar} {p : PE} (h : resV P st r = some p) : (resS a.tmps r).run P w = .ok (p.den C ρ) w := by
  cases r with
  | tmp t =>
    have e : a.tmps.getD t undef = p.den C ρ := opd_eval (x := .tmp t) R (conds_nil _) h
    simp only [resS, e, Sem.run_pure]
  | cell x t =>
    simp only [resV, Option.bind_eq_some_iff] at h
    obtain ⟨q, hq, hl⟩ := h
    have e : a.tmps.getD x undef = q.den C ρ := opd_eval (x := .tmp x) R (conds_nil _) hq
    have hrun := load_run R hl
    unfold loadE at hl
    split at hl
    · rename_i k o
      simp only [resS, e, PE.den, CE.den]
      exact hrun
    · cases hl
theorem resVs_run (R : Rep B h0 w0 ρ st C a w) : ∀ {rs : List ResultVar} {ps : List PE}, resVs P st rs = some ps → (rs.mapM (resS a.tmps)).run P w = .ok (ps.map (PE.den C ρ)) w := by
  intro rs
  induction rs with
  | nil => intro ps h; cases h; rfl
  | cons r rs ih =>
    intro ps h
    rw [resVs] at h
    split at h
    · rename_i x xs hx hxs
      cases h
      rw [List.mapM_cons, Sem.run_bind, resV_run R hx, Result.andThen_ok, Sem.run_bind, ih hxs, Result.andThen_ok]
      rfl
    · cases h
def resOf (C : Ctx) (ρ : Nat → Nat) : List PE → Value
  | [x] => x.den C ρ
  | xs => .tuple (xs.map (PE.den C ρ)).toArray
theorem results_run (R : Rep B h0 w0 ρ st C a w) {fn : Func} {ps : List PE} (h : resVs P st fn.results.toList = some ps) : (results fn a.tmps).run P w = .ok (resOf C ρ ps) w := by
  rw [results_eq, Sem.run_bind, Array.mapM_eq_mapM_toList]
  show ((do let x ← fn.results.toList.mapM (resS a.tmps); pure x.toArray : Sem (Array Value)).run P w).andThen _ = _
  rw [Sem.run_bind, resVs_run R h, Result.andThen_ok]
  simp only [Sem.run_pure, Result.andThen_ok]
  congr 1
  match ps with
  | [] => rfl
  | [x] => rfl
  | x :: y :: l => rw [dif_neg (by simp)]; rfl
theorem retE_sound (R : Rep B h0 w0 ρ st C a w) {fn : Func} (hs : (retE P fn st).says E C) : ∃ v, (results fn a.tmps).run P w = .ok v w ∧ E.post v C.h := by
  unfold retE at hs
  split at hs
  · rename_i x hx
    split at hs
    · rename_i hp
      refine ⟨_, results_run R hx, ?_⟩
      have : E.post (x.den C noOwn) C.h := hs
      rw [x.den_plain (σ := ρ) hp] at this
      exact this
    · exact hs.elim
  · rename_i xs hne hx
    split at hs
    · rename_i hp
      refine ⟨_, results_run R hx, ?_⟩
      have : E.post (.tuple (xs.map (PE.den C noOwn)).toArray) C.h := hs
      rw [show xs.map (PE.den C noOwn) = xs.map (PE.den C ρ) from List.map_congr_left fun x hx => PE.den_plain x (List.all_eq_true.1 hp x hx)] at this
      match xs, hne, this with
      | [], _, h => exact h
      | [y], hne, _ => exact absurd rfl (hne y)
      | x :: y :: l, _, h => exact h
    · exact hs.elim
  · exact hs.elim
end

/-- A FUNCTION's CONTRACT. -/
theorem by_formulaP {P : Program} {f : FuncId} {fn : Func} (hf : P.funcs[f]? = some fn) (nw : Cfg) (A : Nat → LAnn) {E : Env} (hE : Good P E) {fm : Fm} {ps : List PE} {n : Cnt} (hfm : genFnP nw P A fn ps n = fm)
    (C : Ctx) (hC : Has C n) (ho : Ones C.v)
    (h : fm.says E C) (w : World) (hH : Holds C.h w) {args : Array Value} (ha : args.toList = ps.map (PE.den C noOwn)) :
    Calls P f args w fun e w' => ∃ v k, e = .returned v ∧ E.post v k ∧ Holds k w' ∧ Fr w.heap.size C.h k w w' := by
  subst hfm
  unfold genFnP at h
  split at h
  · rename_i c hbody
    refine calls_of_wp hf hbody ?_
    have hsz : args.size = ps.length := by
      have := congrArg List.length ha
      simpa using this
    have R : Rep w.heap.size C.h w noOwn ⟨ps.map .p ++ List.replicate (fn.ntmps - ps.length) .dead, [], n⟩ C { tmps := args ++ Array.replicate (fn.ntmps - args.size) undef, defers := [] } w := by
      refine ⟨rfl, by simp [hsz], ?_, fun k b hk => by simp at hk, fun k hk => by simp at hk, fun k j hk => by simp at hk, fun k hk => by simp at hk, hH, Fr.refl _ _ _, Nat.le_refl _, hC.i, hC.b, hC.s, hC.v, hC.l, hC.p, ho⟩
      intro i v hiv
      by_cases hlt : i < ps.length
      · rw [List.getElem?_append_left (by simpa using hlt)] at hiv
        simp only [List.getElem?_map, List.getElem?_eq_getElem hlt, Option.map_some, Option.some.injEq] at hiv
        subst hiv
        show _ = _
        have hai : args.toList[i]? = some (ps[i].den C noOwn) := by rw [ha]; simp [hlt]
        have hax : args[i]? = some (ps[i].den C noOwn) := by simpa using hai
        rw [Array.getD_eq_getD_getElem?, Array.getElem?_append_left (by omega), hax]
        rfl
      · rw [List.getElem?_append_right (by simp; omega)] at hiv
        have := List.mem_of_getElem? hiv
        rw [List.eq_of_mem_replicate this]
        trivial
    refine wp_mono (gen_sound hE nw A c 0 _ _ noOwn C _ w R h) ?_
    rintro e a w' ⟨ρ, st, D, hx, _, R', hs'⟩
    cases e with
    | normal =>
      obtain ⟨v, h1, h2⟩ := retE_sound R' hs'
      exact ⟨R'.defers, v, h1, v, _, rfl, h2, R'.holds, R'.fr⟩
    | ret =>
      obtain ⟨v, h1, h2⟩ := retE_sound R' hs'
      exact ⟨R'.defers, v, h1, v, _, rfl, h2, R'.holds, R'.fr⟩
    | exit id => exact (hs' : False).elim
    | goto l => exact (hs' : False).elim
    | panic ch => exact (hs' : False).elim
    | outgrown => exact (hs' : False).elim
  · exact h.elim

theorem by_formula {P : Program} {f : FuncId} {fn : Func} (hf : P.funcs[f]? = some fn) (nw : Cfg) (A : Nat → LAnn) {E : Env} (hE : Good P E) {fm : Fm} (hfm : genFn nw P A fn = fm) {ps : List PE} {n : Cnt}
    (hp : freshPs P .zero fn.params.toList = some (ps, n)) (C : Ctx) (hC : Has C n) (ho : Ones C.v)
    (h : fm.says E C) (w : World) (hH : Holds C.h w) {args : Array Value} (ha : args.toList = ps.map (PE.den C noOwn)) :
    Calls P f args w fun e w' => ∃ v k, e = .returned v ∧ E.post v k ∧ Holds k w' ∧ Fr w.heap.size C.h k w w' := by
  refine by_formulaP hf nw A hE ?_ C hC ho h w hH ha
  unfold genFn at hfm
  rw [hp] at hfm
  exact hfm

/-! ### Callees -/
/-- What is known of a function: handed these, whatever φ asks of what it hands back is so. -/
structure Ct (P : Program) where
  f : FuncId
  spec : List Value → Hp → (Value → Hp → Prop) → Prop
  ok : ∀ args h φ w, spec args h φ → Holds h w → Calls P f args.toArray w fun e w' => ∃ v k, e = .returned v ∧ φ v k ∧ Holds k w' ∧ Fr w.heap.size h k w w'
def specOf {P : Program} : List (Ct P) → FuncId → List Value → Hp → (Value → Hp → Prop) → Prop
  | [], _, _, _, _ => False
  | c :: cs, f, args, h, φ => if c.f = f then c.spec args h φ else specOf cs f args h φ
theorem specOf_good {P : Program} (cs : List (Ct P)) : ∀ f args h φ w, specOf cs f args h φ → Holds h w → Calls P f args.toArray w fun e w' => ∃ v k, e = .returned v ∧ φ v k ∧ Holds k w' ∧ Fr w.heap.size h k w w' := by
  induction cs with
  | nil => intro f args hh φ w h; exact h.elim
  | cons c cs ih =>
    intro f args hh φ w h hH
    rw [specOf] at h
    split at h
    · rename_i hf
      subst hf
      exact c.ok args hh φ w h hH
    · exact ih f args hh φ w h hH
/-- A function that hands back one value, known. -/
theorem ct_value {P : Program} {f : FuncId} {args : Array Value} {w : World} {v : Value} {h : Hp} {φ : Value → Hp → Prop} (hc : Calls P f args w fun e w' => e = .returned v ∧ Below w.heap.size w w') (hφ : φ v h) (hH : Holds h w) :
    Calls P f args w fun e w' => ∃ v k, e = .returned v ∧ φ v k ∧ Holds k w' ∧ Fr w.heap.size h k w w' := hc.mono fun _ _ ⟨he, hb⟩ => ⟨v, h, he, hφ, hH.below hb, Fr.of_below hb⟩
theorem ct_same {P : Program} {f : FuncId} {args : Array Value} {w : World} {v : Value} {h : Hp} {φ : Value → Hp → Prop} (hc : Calls P f args w fun e w' => e = .returned v ∧ w = w') (hφ : φ v h) (hH : Holds h w) :
    Calls P f args w fun e w' => ∃ v k, e = .returned v ∧ φ v k ∧ Holds k w' ∧ Fr w.heap.size h k w w' := hc.mono fun _ _ ⟨he, hb⟩ => ⟨v, h, he, hφ, hb ▸ hH, hb ▸ Fr.refl _ _ _⟩
theorem B_inj {a b : List UInt8} : (B a = B b) = (a = b) := by
  apply propext
  constructor
  · intro h
    have := congrArg ByteArray.toList h
    rwa [B_toList, B_toList] at this
  · rintro rfl; rfl
end Go.Proofs.YthlakehilhpojaaDoor
namespace Go.Proofs.YthlakehilhpojaaDoor
open Go.RowKit

def noInv : Nat → Ctx → Prop := fun _ _ => False
def noMeas : Nat → Ctx → Nat := fun _ _ => 0
def noAnn : Nat → LAnn := fun _ => ⟨[], [], []⟩
theorem fr_noHeap {B : Nat} {k : Hp} {w u : World} (h : Fr B noHeap k w u) : Below B w u :=
  ⟨h.os, h.tape, h.output, h.size, fun i hi => h.block i hi rfl⟩
theorem holds_noHeap (w : World) : Holds noHeap w := fun _ _ h => by cases h
theorem by_fm {P : Program} {f : FuncId} {fn : Func} (hf : P.funcs[f]? = some fn) {nw : Cfg} {A : Nat → LAnn} {fm : Fm} (hfm : genFn nw P A fn = fm) {ps : List PE} {n : Cnt} (hp : freshPs P .zero fn.params.toList = some (ps, n))
    (cts : List (Ct P)) (post : Value → Hp → Prop) (inv : Nat → Ctx → Prop) (meas : Nat → Ctx → Nat) (C : Ctx) (hC : Has C n) (ho : Ones C.v) (h : fm.says ⟨specOf cts, post, inv, meas⟩ C) (w : World) (hH : Holds C.h w) {args : Array Value} (ha : args.toList = ps.map (PE.den C noOwn)) :
    Calls P f args w fun e w' => ∃ v k, e = .returned v ∧ post v k ∧ Holds k w' ∧ Fr w.heap.size C.h k w w' :=
  by_formula hf nw A (E := ⟨specOf cts, post, inv, meas⟩) (specOf_good cts) hfm hp C hC ho h w hH ha
theorem by_fmP {P : Program} {f : FuncId} {fn : Func} (hf : P.funcs[f]? = some fn) {nw : Cfg} {A : Nat → LAnn} {fm : Fm} {ps : List PE} {n : Cnt} (hfm : genFnP nw P A fn ps n = fm)
    (cts : List (Ct P)) (post : Value → Hp → Prop) (inv : Nat → Ctx → Prop) (meas : Nat → Ctx → Nat) (C : Ctx) (hC : Has C n) (ho : Ones C.v) (h : fm.says ⟨specOf cts, post, inv, meas⟩ C) (w : World) (hH : Holds C.h w) {args : Array Value} (ha : args.toList = ps.map (PE.den C noOwn)) :
    Calls P f args w fun e w' => ∃ v k, e = .returned v ∧ post v k ∧ Holds k w' ∧ Fr w.heap.size C.h k w w' :=
  by_formulaP hf nw A (E := ⟨specOf cts, post, inv, meas⟩) (specOf_good cts) hfm C hC ho h w hH ha
/-- A function that looks at no memory. -/
theorem by_fm0 {P : Program} {f : FuncId} {fn : Func} (hf : P.funcs[f]? = some fn) {nw : Cfg} {A : Nat → LAnn} {fm : Fm} (hfm : genFn nw P A fn = fm) {ps : List PE} {n : Cnt} (hp : freshPs P .zero fn.params.toList = some (ps, n))
    (cts : List (Ct P)) (r : Value) (inv : Nat → Ctx → Prop) (meas : Nat → Ctx → Nat) (C : Ctx) (hh : C.h = noHeap) (hC : Has C n) (ho : Ones C.v) (h : fm.says ⟨specOf cts, fun v _ => v = r, inv, meas⟩ C) (w : World) {args : Array Value} (ha : args.toList = ps.map (PE.den C noOwn)) :
    Calls P f args w fun e w' => e = .returned r ∧ Below w.heap.size w w' := by
  refine (by_fm hf hfm hp cts (fun v _ => v = r) inv meas C hC ho h w (by rw [hh]; exact holds_noHeap w) ha).mono ?_
  rintro e w' ⟨v, k, rfl, rfl, hH, hF⟩
  rw [hh] at hF
  exact ⟨rfl, fr_noHeap hF⟩
/-! ### What a formula says, a road at a time -/
theorem imp_ite {p : Bool} {a b : Prop} : ((p = true → a) ∧ (p = false → b)) = (if p = true then a else b) := by
  apply propext; cases p <;> simp
section
variable (E : Env) (C : Ctx)
theorem says_tt : Fm.tt.says E C = True := rfl
theorem says_ff : Fm.ff.says E C = False := rfl
theorem says_need (g c : BE) (k : Fm) : (Fm.need g c k).says E C = ((if g.den C = true then c.den C = true else True) ∧ k.says E C) := by
  show ((g.den C = true → c.den C = true) ∧ k.says E C) = _
  congr 1
  apply propext; cases g.den C <;> simp
theorem says_ite (b : BE) (t e : Fm) : (Fm.ite b t e).says E C = if b.den C = true then t.says E C else e.says E C := imp_ite
theorem says_call (g : BE) (m : Bool) (f : FuncId) (args : List PE) (r : VE) (d : Cnt) (k : Fm) : (Fm.call g m f args r d k).says E C =
    if g.den C = true then E.spec f (args.map (PE.den C noOwn)) C.h fun v h => (m = true → HLe C.h h) ∧ exI d fun x => v = r.den (C.push x) noOwn ∧ k.says E ((C.push x).heap h) else k.says E (C.push (Inc.blank d)) := imp_ite
theorem says_callK (g : BE) (ks : List (BE × AE × Nat)) (f : FuncId) (args : List PE) (r : VE) (d : Cnt) (k : Fm) : (Fm.callK g ks f args r d k).says E C =
    if g.den C = true then E.spec f (args.map (PE.den C noOwn)) C.h fun v h => (∀ x ∈ ks, x.1.den C = true → hread h (x.2.1.den C) x.2.2 = hread C.h (x.2.1.den C) x.2.2) ∧ exI d fun x => v = r.den (C.push x) noOwn ∧ k.says E ((C.push x).heap h) else k.says E (C.push (Inc.blank d)) := imp_ite
theorem says_load (g : BE) (a : AE) (n : Nat) (r : List CE) (d : Cnt) (k : Fm) : (Fm.load g a n r d k).says E C =
    if g.den C = true then exI d fun x => hread C.h (a.den C) n = some (r.map (CE.den (C.push x) noOwn)) ∧ k.says E (C.push x) else k.says E (C.push (Inc.blank d)) := imp_ite
theorem says_store (a : AE) (cs : List CE) (k : Fm) : (Fm.store a cs k).says E C = ∃ h, hwrite C.h (a.den C) (cs.map (CE.den C noOwn)) = some h ∧ k.says E (C.heap h) := rfl
theorem says_mk (cs : List CE) (ty : TypeId) (len : Nat) (k : Fm) : (Fm.mk cs ty len k).says E C = ∀ b, C.h b = none → k.says E ((C.push ⟨[], [], [], [], [⟨some (b, 0), len, len⟩], []⟩).heap (C.h.set b ⟨cs.map (CE.den C noOwn), ty⟩)) := rfl
theorem says_mks (n : IE) (z : CE) (ty : TypeId) (k : Fm) : (Fm.mks n z ty k).says E C = (0 ≤ n.den C ∧ n.den C ≤ 16777216 ∧ ∀ b, C.h b = none → k.says E ((C.push ⟨[], [], [], [], [⟨some (b, 0), (n.den C).toNat, (n.den C).toNat⟩], []⟩).heap (C.h.set b ⟨List.replicate (n.den C).toNat (z.den C noOwn), ty⟩))) := rfl
theorem says_new (cs : List CE) (ty : TypeId) (k : Fm) : (Fm.new cs ty k).says E C = ∀ b, C.h b = none → k.says E ((C.push ⟨[], [], [], [], [], [some (b, 0)]⟩).heap (C.h.set b ⟨cs.map (CE.den C noOwn), ty⟩)) := rfl
theorem says_str (l : LE) (k : Fm) : (Fm.str l k).says E C = ∃ bs, BytesAt C.h (l.den C) bs ∧ k.says E (C.push ⟨[], [], [bs], [], [], []⟩) := rfl
theorem says_ret (r : VE) : (Fm.ret r).says E C = E.post (r.den C noOwn) C.h := rfl
theorem says_again (o : Nat) (n0 n1 : Cnt) (g : Got) : (Fm.again o n0 n1 g).says E C = (E.inv o ((C.cut n0).push (g.den C)).bare ∧ E.meas o ((C.cut n0).push (g.den C)).bare < C.m o) := rfl
theorem says_app (s y : LE) (sz bytes : Nat) (ty : TypeId) (k : Fm) : (Fm.app s y sz bytes ty k).says E C = ∃ xs ys, OwnS C.h (s.den C) xs ty sz ∧ RdS C.h (y.den C) ys sz ∧ Ones ys ∧ (s.den C).n + (y.den C).n ≤ maxLen ∧ ((s.den C).n + (y.den C).n) * bytes ≤ 140737488355328 ∧
    ∀ s' h, OwnS h s' (xs ++ ys) ty sz → s'.n = (s.den C).n + (y.den C).n → (∀ x, s'.a = some x → (∃ z, (s.den C).a = some z ∧ z.1 = x.1) ∨ C.h x.1 = none) → (∀ b o, (∀ x, (s.den C).a = some x → x.1 ≠ b) → C.h b = some o → h b = some o) → k.says E ((C.push ⟨[], [], [], [], [s'], []⟩).heap h) := rfl
end
/-! ### A step at a time -/
/-- What is still to be reckoned. -/
def Then (E : Env) (k : Fm) (C : Ctx) : Prop := k.says E C
theorem then_step (E : Env) (k : Fm) (C : Ctx) : Then E k C = k.says E C := rfl
section
variable (E : Env) (C : Ctx)
theorem th_need (g c : BE) (k : Fm) : (Fm.need g c k).says E C = ((if g.den C = true then c.den C = true else True) ∧ Then E k C) := says_need E C g c k
theorem th_ite (b : BE) (t e : Fm) : (Fm.ite b t e).says E C = if b.den C = true then Then E t C else Then E e C := says_ite E C b t e
theorem th_call (g : BE) (m : Bool) (f : FuncId) (args : List PE) (r : VE) (d : Cnt) (k : Fm) : (Fm.call g m f args r d k).says E C =
    if g.den C = true then E.spec f (args.map (PE.den C noOwn)) C.h fun v h => (m = true → HLe C.h h) ∧ exI d fun x => v = r.den (C.push x) noOwn ∧ Then E k ((C.push x).heap h) else Then E k (C.push (Inc.blank d)) := says_call E C g m f args r d k
theorem th_callK (g : BE) (ks : List (BE × AE × Nat)) (f : FuncId) (args : List PE) (r : VE) (d : Cnt) (k : Fm) : (Fm.callK g ks f args r d k).says E C =
    if g.den C = true then E.spec f (args.map (PE.den C noOwn)) C.h fun v h => (∀ x ∈ ks, x.1.den C = true → hread h (x.2.1.den C) x.2.2 = hread C.h (x.2.1.den C) x.2.2) ∧ exI d fun x => v = r.den (C.push x) noOwn ∧ Then E k ((C.push x).heap h) else Then E k (C.push (Inc.blank d)) := says_callK E C g ks f args r d k
theorem th_load (g : BE) (a : AE) (n : Nat) (r : List CE) (d : Cnt) (k : Fm) : (Fm.load g a n r d k).says E C =
    if g.den C = true then exI d fun x => hread C.h (a.den C) n = some (r.map (CE.den (C.push x) noOwn)) ∧ Then E k (C.push x) else Then E k (C.push (Inc.blank d)) := says_load E C g a n r d k
theorem th_store (a : AE) (cs : List CE) (k : Fm) : (Fm.store a cs k).says E C = ∃ h, hwrite C.h (a.den C) (cs.map (CE.den C noOwn)) = some h ∧ Then E k (C.heap h) := rfl
theorem th_mk (cs : List CE) (ty : TypeId) (len : Nat) (k : Fm) : (Fm.mk cs ty len k).says E C = ∀ b, C.h b = none → Then E k ((C.push ⟨[], [], [], [], [⟨some (b, 0), len, len⟩], []⟩).heap (C.h.set b ⟨cs.map (CE.den C noOwn), ty⟩)) := rfl
theorem th_mks (n : IE) (z : CE) (ty : TypeId) (k : Fm) : (Fm.mks n z ty k).says E C = (0 ≤ n.den C ∧ n.den C ≤ 16777216 ∧ ∀ b, C.h b = none → Then E k ((C.push ⟨[], [], [], [], [⟨some (b, 0), (n.den C).toNat, (n.den C).toNat⟩], []⟩).heap (C.h.set b ⟨List.replicate (n.den C).toNat (z.den C noOwn), ty⟩))) := rfl
theorem th_new (cs : List CE) (ty : TypeId) (k : Fm) : (Fm.new cs ty k).says E C = ∀ b, C.h b = none → Then E k ((C.push ⟨[], [], [], [], [], [some (b, 0)]⟩).heap (C.h.set b ⟨cs.map (CE.den C noOwn), ty⟩)) := rfl
theorem th_str (l : LE) (k : Fm) : (Fm.str l k).says E C = ∃ bs, BytesAt C.h (l.den C) bs ∧ Then E k (C.push ⟨[], [], [bs], [], [], []⟩) := rfl
end
/-- A loop: its invariant at its head; then the body, at whatever the names are. -/
theorem loop_intro {E : Env} {o : Nat} {g : Got} {k : Fm} {C : Ctx} (h1 : E.inv o (C.push (g.den C)).bare)
    (h2 : ∀ i b s v l p h M, E.inv o ⟨i, b, s, v, l, p, h, noM⟩ → M o = E.meas o ⟨i, b, s, v, l, p, h, noM⟩ → k.says E ⟨i, b, s, v, l, p, h, M⟩) : (Fm.loop o g k).says E C := by
  refine ⟨h1, (allI_iff _ _).2 fun x _ _ h hi => ?_⟩
  exact h2 _ _ _ _ _ _ _ _ hi (by simp [Ctx.mark, Ctx.bare, Ctx.push, Ctx.heap])
theorem slc_val (x : Slc) (b o n c : Nat) : (Value.slice (some ⟨b, o, none⟩) n c = x.val) = (x = ⟨some (b, o), n, c⟩) := by
  apply propext
  cases x with
  | mk a m d =>
    cases a with
    | none => simp [Slc.val]
    | some q => cases q; simp [Slc.val]; constructor <;> (rintro ⟨⟨rfl, rfl⟩, rfl, rfl⟩; simp)
theorem slc_nil (x : Slc) (n c : Nat) : (Value.slice none n c = x.val) = (x = ⟨none, n, c⟩) := by
  apply propext
  cases x with
  | mk a m d =>
    cases a with
    | none => simp [Slc.val]; constructor <;> (rintro ⟨rfl, rfl⟩; simp)
    | some q => simp [Slc.val]
theorem slc_inj (x y : Slc) : (x.val = y.val) = (y = x) := by
  cases x with
  | mk a n c =>
    cases a with
    | none => exact slc_nil y n c
    | some q => exact slc_val y q.1 q.2 n c
theorem pt_val (p : Option (Nat × Nat)) (b o : Nat) : (Value.pointer (some ⟨b, o, none⟩) = Value.pointer (p.map fun x => ⟨x.1, x.2, none⟩)) = (p = some (b, o)) := by
  apply propext
  cases p with
  | none => simp
  | some q => cases q; simp; constructor <;> (rintro ⟨rfl, rfl⟩; simp)
theorem pt_nil (p : Option (Nat × Nat)) : (Value.pointer none = Value.pointer (p.map fun x => (⟨x.1, x.2, none⟩ : Addr))) = (p = none) := by
  apply propext
  cases p <;> simp
theorem hle_noHeap (h : Hp) : HLe noHeap h = True := eq_true fun _ _ h => by cases h
theorem hle_refl (h : Hp) : HLe h h = True := eq_true fun _ _ h => h
theorem hle_set {h : Hp} {b : Nat} (hb : h b = none) (o : HO) : HLe h (h.set b o) := fun k x hk => by
  simp only [Hp.set]
  rw [if_neg (fun e => by rw [e, hb] at hk; cases hk)]
  exact hk
theorem set_same (h : Hp) (b : Nat) (o : HO) : (h.set b o) b = some o := by simp [Hp.set]
theorem set_ne (h : Hp) {b k : Nat} (hk : k ≠ b) (o : HO) : (h.set b o) k = h k := by simp [Hp.set, hk]
theorem hread_set (h : Hp) (b : Nat) (o : HO) (off n : Nat) : hread (h.set b o) (some (b, off)) n = if off + n ≤ o.cs.length then some ((o.cs.drop off).take n) else none := by
  unfold hread; simp only [set_same]
theorem hread_of {h : Hp} {b : Nat} {o : HO} (hb : h b = some o) (off n : Nat) : hread h (some (b, off)) n = if off + n ≤ o.cs.length then some ((o.cs.drop off).take n) else none := by
  unfold hread; simp only [hb]
theorem hread_set_ne (h : Hp) {b c : Nat} (o : HO) (off n : Nat) (hc : c ≠ b) : hread (h.set b o) (some (c, off)) n = hread h (some (c, off)) n := by
  unfold hread; simp only [set_ne h hc]
theorem set_set (h : Hp) (b : Nat) (o o' : HO) : (h.set b o).set b o' = h.set b o' := by
  funext k; simp only [Hp.set]; split <;> rfl
theorem set_comm (h : Hp) {b c : Nat} (hc : b ≠ c) (o o' : HO) : (h.set b o).set c o' = (h.set c o').set b o := by
  funext k; simp only [Hp.set]; split <;> split <;> first | rfl | omega
theorem set_self {h : Hp} {b : Nat} {o : HO} (hb : h b = some o) : h = h.set b o := by
  funext k; simp only [Hp.set]; split
  · rename_i e; rw [e, hb]
  · rfl
theorem hwrite_set (h : Hp) (b : Nat) (o : HO) (off : Nat) (cs : List Value) : hwrite (h.set b o) (some (b, off)) cs = if off + cs.length ≤ o.cs.length then some (h.set b ⟨o.cs.take off ++ cs ++ o.cs.drop (off + cs.length), o.ty⟩) else none := by
  unfold hwrite; simp only [set_same, set_set]
/-- Known memory that nobody asks for any more is forgotten. -/
theorem ct_forget {P : Program} {f : FuncId} {args : Array Value} {w : World} {h : Hp} {φ : Value → Hp → Prop} {B : Nat} (hc : Calls P f args w fun e w' => ∃ v k, e = .returned v ∧ (∃ k', HLe k' k ∧ φ v k') ∧ Holds k w' ∧ Fr B h k w w') :
    Calls P f args w fun e w' => ∃ v k, e = .returned v ∧ φ v k ∧ Holds k w' ∧ Fr B h k w w' := by
  refine hc.mono ?_
  rintro e w' ⟨v, k, rfl, ⟨k', hl, hφ⟩, hH, hF⟩
  refine ⟨v, k', rfl, hφ, fun b o hb => hH b o (hl b o hb), ⟨hF.os, hF.tape, hF.output, hF.size, hF.block, fun c hc hn => ?_⟩⟩
  cases hq : k' c with
  | none => rfl
  | some o => have := hl c o hq; rw [hF.ghost c hc hn] at this; cases this
theorem noHeap_at (b : Nat) : noHeap b = none := rfl
theorem ones_nil : Ones [] := fun _ h => by cases h
/-- A formula's parts. -/
def Fm.k : Fm → Fm
  | .need _ _ k => k
  | .call _ _ _ _ _ _ k => k
  | .load _ _ _ _ _ k => k
  | .store _ _ k => k
  | .mk _ _ _ k => k
  | .loop _ _ k => k
  | .app _ _ _ _ _ k => k
  | .str _ k => k
  | .callK _ _ _ _ _ _ k => k
  | .new _ _ k => k
  | .mks _ _ _ k => k
  | .ite _ t _ => t
  | f => f
def Fm.e : Fm → Fm
  | .ite _ _ e => e
  | f => f
end Go.Proofs.YthlakehilhpojaaDoor
namespace Go.Proofs.YthlakehilhpojaaDoor
open Go.RowKit
attribute [local go_sem] Fm.says BE.den IE.den SE.den LE.den AE.den CE.den PE.den VE.den KV.val Got.den Got.cnt exI allI exL allL Ctx.push Ctx.heap Ctx.cut Ctx.bare Ctx.mark Inc.blank List.getD_cons_zero List.getD_cons_succ List.cons_append List.nil_append List.append_nil List.map_cons List.map_nil List.replicate_zero List.replicate_succ specOf ltB_t leB_t ltB_f leB_f slc_val slc_nil slc_inj pt_val pt_nil hle_noHeap hle_refl hread_set hwrite_set set_same set_set noHeap_at B_inj ones_nil and_assoc
def fm_small : Fm := (.ret (.p (.one (.b (.or (.and (.le (.c 97) (.x 0)) (.le (.x 0) (.c 122))) (.eqI (.x 0) (.c 95)))))))
theorem gen_small : genFn ⟨true, []⟩ Tryd.prog (fun l => ([] : List LAnn).getD l ⟨[], [], []⟩) Tryd.f32 = fm_small := by kernel_rfl
theorem ps_small : freshPs Tryd.prog .zero Tryd.f32.params.toList = some ([(.one (.i .u8 (.x 0)))], ⟨1, 0, 0, 0, 0, 0⟩) := by kernel_rfl
def fm_great : Fm := (.ret (.p (.one (.b (.and (.le (.c 65) (.x 0)) (.le (.x 0) (.c 90)))))))
theorem gen_great : genFn ⟨true, []⟩ Tryd.prog (fun l => ([] : List LAnn).getD l ⟨[], [], []⟩) Tryd.f33 = fm_great := by kernel_rfl
theorem ps_great : freshPs Tryd.prog .zero Tryd.f33.params.toList = some ([(.one (.i .u8 (.x 0)))], ⟨1, 0, 0, 0, 0, 0⟩) := by kernel_rfl
def fm_digit : Fm := (.ret (.p (.one (.b (.and (.le (.c 48) (.x 0)) (.le (.x 0) (.c 57)))))))
theorem gen_digit : genFn ⟨true, []⟩ Tryd.prog (fun l => ([] : List LAnn).getD l ⟨[], [], []⟩) Tryd.f35 = fm_digit := by kernel_rfl
theorem ps_digit : freshPs Tryd.prog .zero Tryd.f35.params.toList = some ([(.one (.i .u8 (.x 0)))], ⟨1, 0, 0, 0, 0, 0⟩) := by kernel_rfl
def fm_inner : Fm := (.call (.c true) false 32 [(.one (.i .u8 (.x 0)))] (.p (.one (.b (.x 0)))) ⟨0, 1, 0, 0, 0, 0⟩
  (.call (.not (.x 0)) false 33 [(.one (.i .u8 (.x 0)))] (.p (.one (.b (.x 1)))) ⟨0, 1, 0, 0, 0, 0⟩
  (.call (.not (.or (.x 0) (.x 1))) false 35 [(.one (.i .u8 (.x 0)))] (.p (.one (.b (.x 2)))) ⟨0, 1, 0, 0, 0, 0⟩
  (.ret (.p (.one (.b (.or (.or (.x 0) (.x 1)) (.x 2)))))))))
theorem gen_inner : genFn ⟨true, []⟩ Tryd.prog (fun l => ([] : List LAnn).getD l ⟨[], [], []⟩) Tryd.f57 = fm_inner := by kernel_rfl
theorem ps_inner : freshPs Tryd.prog .zero Tryd.f57.params.toList = some ([(.one (.i .u8 (.x 0)))], ⟨1, 0, 0, 0, 0, 0⟩) := by kernel_rfl
def fm_skip1 : Fm := (.ret (.p (.one (.b (.not (.eqI (.x 0) (.c 10)))))))
theorem gen_skip1 : genFn ⟨true, []⟩ Tryd.prog (fun l => ([] : List LAnn).getD l ⟨[], [], []⟩) Tryd.f56 = fm_skip1 := by kernel_rfl
theorem ps_skip1 : freshPs Tryd.prog .zero Tryd.f56.params.toList = some ([(.one (.i .u8 (.x 0)))], ⟨1, 0, 0, 0, 0, 0⟩) := by kernel_rfl
def fm_pass : Fm := (.need (.c true) (.nnp 0)
  (.need (.c true) (.nnp 0)
  (.load (.c true) (.pt 0 1) 1 [(.i .i64 (.x 1))] ⟨1, 0, 0, 0, 0, 0⟩
  (.need (.c true) (.and (.le (.c (-9223372036854775808)) (.add (.x 1) (.x 0))) (.le (.add (.x 1) (.x 0)) (.c 9223372036854775807)))
  (.need (.c true) (.nnp 0)
  (.need (.c true) (.nnp 0)
  (.store (.pt 0 1) [(.i .i64 (.add (.x 1) (.x 0)))]
  (.need (.c true) (.nnp 0)
  (.need (.c true) (.nnp 0)
  (.load (.c true) (.pt 0 3) 1 [(.i .i64 (.x 2))] ⟨1, 0, 0, 0, 0, 0⟩
  (.need (.c true) (.and (.le (.c (-9223372036854775808)) (.add (.x 2) (.x 0))) (.le (.add (.x 2) (.x 0)) (.c 9223372036854775807)))
  (.need (.c true) (.nnp 0)
  (.need (.c true) (.nnp 0)
  (.store (.pt 0 3) [(.i .i64 (.add (.x 2) (.x 0)))]
  (.ret (.tup []))))))))))))))))
theorem gen_pass : genFn ⟨true, []⟩ Tryd.prog (fun l => ([] : List LAnn).getD l ⟨[], [], []⟩) Tryd.f54 = fm_pass := by kernel_rfl
theorem ps_pass : freshPs Tryd.prog .zero Tryd.f54.params.toList = some ([(.one (.pt 0)), (.one (.i .i64 (.x 0)))], ⟨1, 0, 0, 0, 0, 1⟩) := by kernel_rfl
def fm_kind : Fm := (.ite (.or (.and (.le (.c 97) (.x 0)) (.le (.x 0) (.c 122))) (.eqI (.x 0) (.c 95)))
  (.ret (.p (.one (.i .i64 (.c 1)))))
  (.ite (.and (.le (.c 65) (.x 0)) (.le (.x 0) (.c 90)))
  (.ret (.p (.one (.i .i64 (.c 2)))))
  (.ite (.and (.le (.c 48) (.x 0)) (.le (.x 0) (.c 57)))
  (.ret (.p (.one (.i .i64 (.c 3)))))
  (.ret (.p (.one (.i .i64 (.c 0))))))))
theorem gen_kind : genFn ⟨true, []⟩ Tryd.prog (fun l => ([] : List LAnn).getD l ⟨[], [], []⟩) Tryd.f25 = fm_kind := by kernel_rfl
theorem ps_kind : freshPs Tryd.prog .zero Tryd.f25.params.toList = some ([(.one (.i .u8 (.x 0)))], ⟨1, 0, 0, 0, 0, 0⟩) := by kernel_rfl
/-- A reader's cells. -/
def rc (s : List UInt8) (a l c : Int) : List Value := [.string (B s), .int .i64 a, .int .i64 l, .int .i64 c]

def ctSmall : Ct Tryd.prog where
  f := 32
  spec := fun args h φ => ∃ b : Int, args = [.int .u8 b] ∧ φ (.bool (smB b)) h
  ok := by
    rintro args h φ w ⟨b, rfl, hφ⟩ hH
    refine by_fm Tryd.func32 gen_small ps_small [] φ noInv noMeas ⟨[b], [], [], [], [], [], h, noM⟩ ⟨rfl, rfl, rfl, rfl, rfl, rfl⟩ ones_nil ?_ w hH rfl
    have e : smB b = ((leB 97 b && leB b 122) || b == 95) := by
      unfold smB kdi leB
      rw [Bool.eq_iff_iff]; simp
      split <;> (try split) <;> (try split) <;> simp_all
    simp [fm_small, go_sem]
    rw [e] at hφ
    simpa using hφ
def ctGreat : Ct Tryd.prog where
  f := 33
  spec := fun args h φ => ∃ b : Int, args = [.int .u8 b] ∧ φ (.bool (grB b)) h
  ok := by
    rintro args h φ w ⟨b, rfl, hφ⟩ hH
    refine by_fm Tryd.func33 gen_great ps_great [] φ noInv noMeas ⟨[b], [], [], [], [], [], h, noM⟩ ⟨rfl, rfl, rfl, rfl, rfl, rfl⟩ ones_nil ?_ w hH rfl
    have e : grB b = (leB 65 b && leB b 90) := by
      unfold grB kdi leB
      rw [Bool.eq_iff_iff]; simp
      split <;> (try split) <;> (try split) <;> simp_all <;> omega
    simp [fm_great, go_sem]
    rw [e] at hφ
    simpa using hφ
def ctDigit : Ct Tryd.prog where
  f := 35
  spec := fun args h φ => ∃ b : Int, args = [.int .u8 b] ∧ φ (.bool (dgB b)) h
  ok := by
    rintro args h φ w ⟨b, rfl, hφ⟩ hH
    refine by_fm Tryd.func35 gen_digit ps_digit [] φ noInv noMeas ⟨[b], [], [], [], [], [], h, noM⟩ ⟨rfl, rfl, rfl, rfl, rfl, rfl⟩ ones_nil ?_ w hH rfl
    have e : dgB b = (leB 48 b && leB b 57) := by
      unfold dgB kdi leB
      rw [Bool.eq_iff_iff]; simp
      split <;> (try split) <;> (try split) <;> simp_all <;> omega
    simp [fm_digit, go_sem]
    rw [e] at hφ
    simpa using hφ
theorem inB_eq (b : Int) : inB b = (smB b || grB b || dgB b) := by
  unfold inB smB grB dgB kdi
  rw [Bool.eq_iff_iff]
  split <;> (try split) <;> (try split) <;> simp
def ctInner : Ct Tryd.prog where
  f := 57
  spec := fun args h φ => ∃ b : Int, args = [.int .u8 b] ∧ φ (.bool (inB b)) h
  ok := by
    rintro args h φ w ⟨b, rfl, hφ⟩ hH
    refine by_fm Tryd.func57 gen_inner ps_inner [ctSmall, ctGreat, ctDigit] φ noInv noMeas ⟨[b], [], [], [], [], [], h, noM⟩ ⟨rfl, rfl, rfl, rfl, rfl, rfl⟩ ones_nil ?_ w hH rfl
    rw [inB_eq] at hφ
    cases h1 : smB b <;> cases h2 : grB b <;> rw [h1, h2] at hφ <;> simp [fm_inner, go_sem, ctSmall, ctGreat, ctDigit, h1, h2] <;> simpa using hφ
def ctSkip1 : Ct Tryd.prog where
  f := 56
  spec := fun args h φ => ∃ b : Int, args = [.int .u8 b] ∧ φ (.bool (nlB b)) h
  ok := by
    rintro args h φ w ⟨b, rfl, hφ⟩ hH
    refine by_fm Tryd.func56 gen_skip1 ps_skip1 [] φ noInv noMeas ⟨[b], [], [], [], [], [], h, noM⟩ ⟨rfl, rfl, rfl, rfl, rfl, rfl⟩ ones_nil ?_ w hH rfl
    simp [fm_skip1, go_sem]
    exact hφ
def ctKind : Ct Tryd.prog where
  f := 25
  spec := fun args h φ => ∃ b : Int, args = [.int .u8 b] ∧ φ (.int .i64 (kdi b)) h
  ok := by
    rintro args h φ w ⟨b, rfl, hφ⟩ hH
    refine by_fm Tryd.func25 gen_kind ps_kind [] φ noInv noMeas ⟨[b], [], [], [], [], [], h, noM⟩ ⟨rfl, rfl, rfl, rfl, rfl, rfl⟩ ones_nil ?_ w hH rfl
    unfold kdi at hφ
    by_cases h1 : (97 ≤ b ∧ b ≤ 122) ∨ b = 95
    · rw [if_pos h1] at hφ
      simp [fm_kind, go_sem, h1, hφ]
      intro x y; exfalso; omega
    · rw [if_neg h1] at hφ
      by_cases h2 : 65 ≤ b ∧ b ≤ 90
      · rw [if_pos h2] at hφ
        simp [fm_kind, go_sem, h1, h2, hφ]
        intro x y z; exfalso; omega
      · rw [if_neg h2] at hφ
        by_cases h3 : 48 ≤ b ∧ b ≤ 57
        · rw [if_pos h3] at hφ
          simp [fm_kind, go_sem, h1, h2, h3, hφ]
          intro x y z u; exfalso; omega
        · rw [if_neg h3] at hφ
          simp [fm_kind, go_sem, h1, h2, h3, hφ]
def ctPass : Ct Tryd.prog where
  f := 54
  spec := fun args h φ => ∃ b s a l c T n, args = [.pointer (some ⟨b, 0, none⟩), .int .i64 n] ∧ h b = some ⟨rc s a l c, T⟩ ∧ 0 ≤ a ∧ a ≤ 1000000 ∧ 0 ≤ c ∧ c ≤ 1000000 ∧ 0 ≤ n ∧ n ≤ 1000000 ∧ φ (.tuple #[]) (h.set b ⟨rc s (a + n) l (c + n), T⟩)
  ok := by
    rintro args h φ w ⟨b, s, a, l, c, T, n, rfl, hb, h1, h2, h3, h4, h5, h6, hφ⟩ hH
    obtain ⟨h, rfl⟩ : ∃ h', h = Hp.set h' b ⟨rc s a l c, T⟩ := ⟨h, set_self hb⟩
    refine by_fm Tryd.func54 gen_pass ps_pass [] φ noInv noMeas ⟨[n], [], [], [], [], [some (b, 0)], h.set b ⟨rc s a l c, T⟩, noM⟩ ⟨rfl, rfl, rfl, rfl, rfl, rfl⟩ ones_nil ?_ w hH rfl
    rw [set_set] at hφ
    simp [fm_pass, go_sem, rc, hφ]
    refine ⟨by omega, by omega, by omega, by omega, ?_⟩
    simpa [rc] using hφ
end Go.Proofs.YthlakehilhpojaaDoor
namespace Go.Proofs.YthlakehilhpojaaDoor
open Go.RowKit
def fm_run_dg : Fm := (.loop 0 ⟨[(.c 0)], [], [], [], [], []⟩
  (.load (.c true) (.pt 0 1) 1 [(.i .i64 (.x 1))] ⟨1, 0, 0, 0, 0, 0⟩
  (.load (.c true) (.pt 0 0) 1 [(.s (.x 0))] ⟨0, 0, 1, 0, 0, 0⟩
  (.load (.lt (.add (.x 1) (.x 0)) (.len (.x 0))) (.pt 0 0) 1 [(.s (.x 1))] ⟨0, 0, 1, 0, 0, 0⟩
  (.load (.lt (.add (.x 1) (.x 0)) (.len (.x 0))) (.pt 0 1) 1 [(.i .i64 (.x 2))] ⟨1, 0, 0, 0, 0, 0⟩
  (.need (.c true) (.nnp 0)
  (.need (.c true) (.nnp 0)
  (.need (.c true) (.and (.le (.c (-9223372036854775808)) (.add (.x 1) (.x 0))) (.le (.add (.x 1) (.x 0)) (.c 9223372036854775807)))
  (.need (.c true) (.nnp 0)
  (.need (.c true) (.nnp 0)
  (.need (.lt (.add (.x 1) (.x 0)) (.len (.x 0))) (.nnp 0)
  (.need (.lt (.add (.x 1) (.x 0)) (.len (.x 0))) (.nnp 0)
  (.need (.lt (.add (.x 1) (.x 0)) (.len (.x 0))) (.nnp 0)
  (.need (.lt (.add (.x 1) (.x 0)) (.len (.x 0))) (.nnp 0)
  (.need (.lt (.add (.x 1) (.x 0)) (.len (.x 0))) (.and (.le (.c (-9223372036854775808)) (.add (.x 2) (.x 0))) (.le (.add (.x 2) (.x 0)) (.c 9223372036854775807)))
  (.need (.lt (.add (.x 1) (.x 0)) (.len (.x 0))) (.and (.le (.c 0) (.add (.x 2) (.x 0))) (.lt (.add (.x 2) (.x 0)) (.len (.x 1))))
  (.call (.lt (.add (.x 1) (.x 0)) (.len (.x 0))) false 35 [(.one (.i .u8 (.at (.x 1) (.add (.x 2) (.x 0)))))] (.p (.one (.b (.x 0)))) ⟨0, 1, 0, 0, 0, 0⟩
  (.ite (.and (.lt (.add (.x 1) (.x 0)) (.len (.x 0))) (.x 0))
  (.need (.c true) (.and (.le (.c (-9223372036854775808)) (.add (.x 0) (.c 1))) (.le (.add (.x 0) (.c 1)) (.c 9223372036854775807)))
  (.again 0 ⟨0, 0, 0, 0, 0, 1⟩ ⟨1, 0, 0, 0, 0, 1⟩ ⟨[(.add (.x 0) (.c 1))], [], [], [], [], []⟩))
  (.ret (.p (.one (.i .i64 (.x 0)))))))))))))))))))))))
theorem gen_run_dg : genFnP ⟨true, []⟩ Tryd.prog (fun l => ([⟨[5], [6, 7, 8, 9, 10, 11, 12, 13, 14, 15, 16, 17, 18, 19, 20, 21, 22, 23, 24, 25, 26, 27, 28, 29, 30, 31, 32, 33, 34], []⟩] : List LAnn).getD l ⟨[], [], []⟩) Tryd.f55 [.one (.pt 0), .one (.c (.fn 35))] ⟨0, 0, 0, 0, 0, 1⟩ = fm_run_dg := by kernel_rfl
def fm_run_in : Fm := (.loop 0 ⟨[(.c 0)], [], [], [], [], []⟩
  (.load (.c true) (.pt 0 1) 1 [(.i .i64 (.x 1))] ⟨1, 0, 0, 0, 0, 0⟩
  (.load (.c true) (.pt 0 0) 1 [(.s (.x 0))] ⟨0, 0, 1, 0, 0, 0⟩
  (.load (.lt (.add (.x 1) (.x 0)) (.len (.x 0))) (.pt 0 0) 1 [(.s (.x 1))] ⟨0, 0, 1, 0, 0, 0⟩
  (.load (.lt (.add (.x 1) (.x 0)) (.len (.x 0))) (.pt 0 1) 1 [(.i .i64 (.x 2))] ⟨1, 0, 0, 0, 0, 0⟩
  (.need (.c true) (.nnp 0)
  (.need (.c true) (.nnp 0)
  (.need (.c true) (.and (.le (.c (-9223372036854775808)) (.add (.x 1) (.x 0))) (.le (.add (.x 1) (.x 0)) (.c 9223372036854775807)))
  (.need (.c true) (.nnp 0)
  (.need (.c true) (.nnp 0)
  (.need (.lt (.add (.x 1) (.x 0)) (.len (.x 0))) (.nnp 0)
  (.need (.lt (.add (.x 1) (.x 0)) (.len (.x 0))) (.nnp 0)
  (.need (.lt (.add (.x 1) (.x 0)) (.len (.x 0))) (.nnp 0)
  (.need (.lt (.add (.x 1) (.x 0)) (.len (.x 0))) (.nnp 0)
  (.need (.lt (.add (.x 1) (.x 0)) (.len (.x 0))) (.and (.le (.c (-9223372036854775808)) (.add (.x 2) (.x 0))) (.le (.add (.x 2) (.x 0)) (.c 9223372036854775807)))
  (.need (.lt (.add (.x 1) (.x 0)) (.len (.x 0))) (.and (.le (.c 0) (.add (.x 2) (.x 0))) (.lt (.add (.x 2) (.x 0)) (.len (.x 1))))
  (.call (.lt (.add (.x 1) (.x 0)) (.len (.x 0))) false 57 [(.one (.i .u8 (.at (.x 1) (.add (.x 2) (.x 0)))))] (.p (.one (.b (.x 0)))) ⟨0, 1, 0, 0, 0, 0⟩
  (.ite (.and (.lt (.add (.x 1) (.x 0)) (.len (.x 0))) (.x 0))
  (.need (.c true) (.and (.le (.c (-9223372036854775808)) (.add (.x 0) (.c 1))) (.le (.add (.x 0) (.c 1)) (.c 9223372036854775807)))
  (.again 0 ⟨0, 0, 0, 0, 0, 1⟩ ⟨1, 0, 0, 0, 0, 1⟩ ⟨[(.add (.x 0) (.c 1))], [], [], [], [], []⟩))
  (.ret (.p (.one (.i .i64 (.x 0)))))))))))))))))))))))
theorem gen_run_in : genFnP ⟨true, []⟩ Tryd.prog (fun l => ([⟨[5], [6, 7, 8, 9, 10, 11, 12, 13, 14, 15, 16, 17, 18, 19, 20, 21, 22, 23, 24, 25, 26, 27, 28, 29, 30, 31, 32, 33, 34], []⟩] : List LAnn).getD l ⟨[], [], []⟩) Tryd.f55 [.one (.pt 0), .one (.c (.fn 57))] ⟨0, 0, 0, 0, 0, 1⟩ = fm_run_in := by kernel_rfl
def fm_run_nl : Fm := (.loop 0 ⟨[(.c 0)], [], [], [], [], []⟩
  (.load (.c true) (.pt 0 1) 1 [(.i .i64 (.x 1))] ⟨1, 0, 0, 0, 0, 0⟩
  (.load (.c true) (.pt 0 0) 1 [(.s (.x 0))] ⟨0, 0, 1, 0, 0, 0⟩
  (.load (.lt (.add (.x 1) (.x 0)) (.len (.x 0))) (.pt 0 0) 1 [(.s (.x 1))] ⟨0, 0, 1, 0, 0, 0⟩
  (.load (.lt (.add (.x 1) (.x 0)) (.len (.x 0))) (.pt 0 1) 1 [(.i .i64 (.x 2))] ⟨1, 0, 0, 0, 0, 0⟩
  (.need (.c true) (.nnp 0)
  (.need (.c true) (.nnp 0)
  (.need (.c true) (.and (.le (.c (-9223372036854775808)) (.add (.x 1) (.x 0))) (.le (.add (.x 1) (.x 0)) (.c 9223372036854775807)))
  (.need (.c true) (.nnp 0)
  (.need (.c true) (.nnp 0)
  (.need (.lt (.add (.x 1) (.x 0)) (.len (.x 0))) (.nnp 0)
  (.need (.lt (.add (.x 1) (.x 0)) (.len (.x 0))) (.nnp 0)
  (.need (.lt (.add (.x 1) (.x 0)) (.len (.x 0))) (.nnp 0)
  (.need (.lt (.add (.x 1) (.x 0)) (.len (.x 0))) (.nnp 0)
  (.need (.lt (.add (.x 1) (.x 0)) (.len (.x 0))) (.and (.le (.c (-9223372036854775808)) (.add (.x 2) (.x 0))) (.le (.add (.x 2) (.x 0)) (.c 9223372036854775807)))
  (.need (.lt (.add (.x 1) (.x 0)) (.len (.x 0))) (.and (.le (.c 0) (.add (.x 2) (.x 0))) (.lt (.add (.x 2) (.x 0)) (.len (.x 1))))
  (.call (.lt (.add (.x 1) (.x 0)) (.len (.x 0))) false 56 [(.one (.i .u8 (.at (.x 1) (.add (.x 2) (.x 0)))))] (.p (.one (.b (.x 0)))) ⟨0, 1, 0, 0, 0, 0⟩
  (.ite (.and (.lt (.add (.x 1) (.x 0)) (.len (.x 0))) (.x 0))
  (.need (.c true) (.and (.le (.c (-9223372036854775808)) (.add (.x 0) (.c 1))) (.le (.add (.x 0) (.c 1)) (.c 9223372036854775807)))
  (.again 0 ⟨0, 0, 0, 0, 0, 1⟩ ⟨1, 0, 0, 0, 0, 1⟩ ⟨[(.add (.x 0) (.c 1))], [], [], [], [], []⟩))
  (.ret (.p (.one (.i .i64 (.x 0)))))))))))))))))))))))
theorem gen_run_nl : genFnP ⟨true, []⟩ Tryd.prog (fun l => ([⟨[5], [6, 7, 8, 9, 10, 11, 12, 13, 14, 15, 16, 17, 18, 19, 20, 21, 22, 23, 24, 25, 26, 27, 28, 29, 30, 31, 32, 33, 34], []⟩] : List LAnn).getD l ⟨[], [], []⟩) Tryd.f55 [.one (.pt 0), .one (.c (.fn 56))] ⟨0, 0, 0, 0, 0, 1⟩ = fm_run_nl := by kernel_rfl
end Go.Proofs.YthlakehilhpojaaDoor
namespace Go.Proofs.YthlakehilhpojaaDoor
open Go.RowKit
attribute [local go_sem] Fm.says BE.den IE.den SE.den LE.den AE.den CE.den PE.den VE.den KV.val Got.den Got.cnt exI allI exL allL Ctx.push Ctx.heap Ctx.cut Ctx.bare Ctx.mark Inc.blank List.getD_cons_zero List.getD_cons_succ List.cons_append List.nil_append List.append_nil List.map_cons List.map_nil List.replicate_zero List.replicate_succ specOf ltB_t leB_t ltB_f leB_f slc_val slc_nil slc_inj pt_val pt_nil hle_noHeap hle_refl hread_set hwrite_set set_same set_set noHeap_at B_inj ones_nil and_assoc
def runInv (p : Int → Bool) (s : List UInt8) (a : Nat) (l c : Int) (T b : Nat) (h : Hp) (_ : Nat) (C : Ctx) : Prop :=
  ∃ n : Int, C = ⟨[n], [], [], [], [], [some (b, 0)], h.set b ⟨rc s a l c, T⟩, noM⟩ ∧ ∃ k : Nat, n = (k : Int) ∧ a + k ≤ s.length ∧ rn p s a = k + rn p s (a + k)
theorem run_dg {s : List UInt8} {a : Nat} {l c : Int} {T b : Nat} (ha : a ≤ s.length) (hs : s.length ≤ 1000000) (h : Hp) (φ : Value → Hp → Prop) (hφ : φ (.int .i64 (rn dgB s a)) (h.set b ⟨rc s a l c, T⟩)) (w : World) (hH : Holds (h.set b ⟨rc s a l c, T⟩) w) :
    Calls Tryd.prog 55 #[.pointer (some ⟨b, 0, none⟩), .func (.func 35) #[] #[]] w fun e w' => ∃ v k, e = .returned v ∧ φ v k ∧ Holds k w' ∧ Fr w.heap.size (h.set b ⟨rc s a l c, T⟩) k w w' := by
  refine by_fmP Tryd.func55 gen_run_dg [ctDigit] φ (runInv dgB s a l c T b h) (fun _ C => (s.length - C.i.getD 0 0).toNat) ⟨[], [], [], [], [], [some (b, 0)], h.set b ⟨rc s a l c, T⟩, noM⟩ ⟨rfl, rfl, rfl, rfl, rfl, rfl⟩ ones_nil ?_ w hH rfl
  simp [fm_run_dg, go_sem, rc, runInv, ctDigit]
  refine ⟨⟨0, rfl, by omega, by simp⟩, fun x k hx hk hr => ?_⟩
  subst hx
  by_cases hlt : (a : Int) + k < s.length
  · have hi : a + k < s.length := by omega
    have e : ((a : Int) + (k : Int)).toNat = a + k := by omega
    have hlt' : ¬ ((s.length : Int) ≤ a + k) := by omega
    cases hp : dgB (bt s (a + k))
    · rw [rn_no hi hp] at hr
      have hk' : (k : Int) = (rn dgB s a : Int) := by omega
      simp [hlt, hlt', e, hp]
      (repeat' apply And.intro) <;> try omega
      rw [hk']
      simpa [rc] using hφ
    · rw [rn_yes hi hp] at hr
      simp [hlt, hlt', e, hp]
      (repeat' apply And.intro) <;> try omega
      exact ⟨k + 1, by omega, by omega, by rw [show a + (k + 1) = a + k + 1 by omega]; omega⟩
  · have hge : (s.length : Int) ≤ a + k := by omega
    rw [rn_end (i := a + k) (by omega)] at hr
    have hk' : (k : Int) = (rn dgB s a : Int) := by omega
    simp [hlt, hge]
    (repeat' apply And.intro) <;> try omega
    rw [hk']
    simpa [rc] using hφ
theorem run_in {s : List UInt8} {a : Nat} {l c : Int} {T b : Nat} (ha : a ≤ s.length) (hs : s.length ≤ 1000000) (h : Hp) (φ : Value → Hp → Prop) (hφ : φ (.int .i64 (rn inB s a)) (h.set b ⟨rc s a l c, T⟩)) (w : World) (hH : Holds (h.set b ⟨rc s a l c, T⟩) w) :
    Calls Tryd.prog 55 #[.pointer (some ⟨b, 0, none⟩), .func (.func 57) #[] #[]] w fun e w' => ∃ v k, e = .returned v ∧ φ v k ∧ Holds k w' ∧ Fr w.heap.size (h.set b ⟨rc s a l c, T⟩) k w w' := by
  refine by_fmP Tryd.func55 gen_run_in [ctInner] φ (runInv inB s a l c T b h) (fun _ C => (s.length - C.i.getD 0 0).toNat) ⟨[], [], [], [], [], [some (b, 0)], h.set b ⟨rc s a l c, T⟩, noM⟩ ⟨rfl, rfl, rfl, rfl, rfl, rfl⟩ ones_nil ?_ w hH rfl
  simp [fm_run_in, go_sem, rc, runInv, ctInner]
  refine ⟨⟨0, rfl, by omega, by simp⟩, fun x k hx hk hr => ?_⟩
  subst hx
  by_cases hlt : (a : Int) + k < s.length
  · have hi : a + k < s.length := by omega
    have e : ((a : Int) + (k : Int)).toNat = a + k := by omega
    have hlt' : ¬ ((s.length : Int) ≤ a + k) := by omega
    cases hp : inB (bt s (a + k))
    · rw [rn_no hi hp] at hr
      have hk' : (k : Int) = (rn inB s a : Int) := by omega
      simp [hlt, hlt', e, hp]
      (repeat' apply And.intro) <;> try omega
      rw [hk']
      simpa [rc] using hφ
    · rw [rn_yes hi hp] at hr
      simp [hlt, hlt', e, hp]
      (repeat' apply And.intro) <;> try omega
      exact ⟨k + 1, by omega, by omega, by rw [show a + (k + 1) = a + k + 1 by omega]; omega⟩
  · have hge : (s.length : Int) ≤ a + k := by omega
    rw [rn_end (i := a + k) (by omega)] at hr
    have hk' : (k : Int) = (rn inB s a : Int) := by omega
    simp [hlt, hge]
    (repeat' apply And.intro) <;> try omega
    rw [hk']
    simpa [rc] using hφ
theorem run_nl {s : List UInt8} {a : Nat} {l c : Int} {T b : Nat} (ha : a ≤ s.length) (hs : s.length ≤ 1000000) (h : Hp) (φ : Value → Hp → Prop) (hφ : φ (.int .i64 (rn nlB s a)) (h.set b ⟨rc s a l c, T⟩)) (w : World) (hH : Holds (h.set b ⟨rc s a l c, T⟩) w) :
    Calls Tryd.prog 55 #[.pointer (some ⟨b, 0, none⟩), .func (.func 56) #[] #[]] w fun e w' => ∃ v k, e = .returned v ∧ φ v k ∧ Holds k w' ∧ Fr w.heap.size (h.set b ⟨rc s a l c, T⟩) k w w' := by
  refine by_fmP Tryd.func55 gen_run_nl [ctSkip1] φ (runInv nlB s a l c T b h) (fun _ C => (s.length - C.i.getD 0 0).toNat) ⟨[], [], [], [], [], [some (b, 0)], h.set b ⟨rc s a l c, T⟩, noM⟩ ⟨rfl, rfl, rfl, rfl, rfl, rfl⟩ ones_nil ?_ w hH rfl
  simp [fm_run_nl, go_sem, rc, runInv, ctSkip1]
  refine ⟨⟨0, rfl, by omega, by simp⟩, fun x k hx hk hr => ?_⟩
  subst hx
  by_cases hlt : (a : Int) + k < s.length
  · have hi : a + k < s.length := by omega
    have e : ((a : Int) + (k : Int)).toNat = a + k := by omega
    have hlt' : ¬ ((s.length : Int) ≤ a + k) := by omega
    cases hp : nlB (bt s (a + k))
    · rw [rn_no hi hp] at hr
      have hk' : (k : Int) = (rn nlB s a : Int) := by omega
      simp [hlt, hlt', e, hp]
      (repeat' apply And.intro) <;> try omega
      rw [hk']
      simpa [rc] using hφ
    · rw [rn_yes hi hp] at hr
      simp [hlt, hlt', e, hp]
      (repeat' apply And.intro) <;> try omega
      exact ⟨k + 1, by omega, by omega, by rw [show a + (k + 1) = a + k + 1 by omega]; omega⟩
  · have hge : (s.length : Int) ≤ a + k := by omega
    rw [rn_end (i := a + k) (by omega)] at hr
    have hk' : (k : Int) = (rn nlB s a : Int) := by omega
    simp [hlt, hge]
    (repeat' apply And.intro) <;> try omega
    rw [hk']
    simpa [rc] using hφ
end Go.Proofs.YthlakehilhpojaaDoor
namespace Go.Proofs.YthlakehilhpojaaDoor
open Go.RowKit
def fm_skip : Fm := (.loop 0 ⟨[], [], [], [], [], []⟩
  (.load (.c true) (.pt 0 1) 1 [(.i .i64 (.x 0))] ⟨1, 0, 0, 0, 0, 0⟩
  (.load (.c true) (.pt 0 0) 1 [(.s (.x 0))] ⟨0, 0, 1, 0, 0, 0⟩
  (.need (.c true) (.nnp 0)
  (.need (.c true) (.nnp 0)
  (.need (.c true) (.nnp 0)
  (.need (.c true) (.nnp 0)
  (.ite (.eqI (.x 0) (.len (.x 0)))
  (.ret (.tup []))
  (.load (.c true) (.pt 0 0) 1 [(.s (.x 1))] ⟨0, 0, 1, 0, 0, 0⟩
  (.load (.c true) (.pt 0 1) 1 [(.i .i64 (.x 1))] ⟨1, 0, 0, 0, 0, 0⟩
  (.need (.c true) (.nnp 0)
  (.need (.c true) (.nnp 0)
  (.need (.c true) (.nnp 0)
  (.need (.c true) (.nnp 0)
  (.need (.c true) (.and (.le (.c 0) (.x 1)) (.lt (.x 1) (.len (.x 1))))
  (.ite (.eqI (.at (.x 1) (.x 1)) (.c 10))
  (.need (.c true) (.nnp 0)
  (.need (.c true) (.nnp 0)
  (.load (.c true) (.pt 0 2) 1 [(.i .i64 (.x 2))] ⟨1, 0, 0, 0, 0, 0⟩
  (.need (.c true) (.and (.le (.c (-9223372036854775808)) (.add (.x 2) (.c 1))) (.le (.add (.x 2) (.c 1)) (.c 9223372036854775807)))
  (.need (.c true) (.nnp 0)
  (.need (.c true) (.nnp 0)
  (.store (.pt 0 2) [(.i .i64 (.add (.x 2) (.c 1)))]
  (.need (.c true) (.nnp 0)
  (.need (.c true) (.nnp 0)
  (.store (.pt 0 3) [(.i .i64 (.c 0))]
  (.call (.c true) false 54 [(.one (.pt 0)), (.one (.i .i64 (.c 1)))] (.tup []) ⟨0, 0, 0, 0, 0, 0⟩
  (.again 0 ⟨0, 0, 0, 0, 0, 1⟩ ⟨0, 0, 0, 0, 0, 1⟩ ⟨[], [], [], [], [], []⟩))))))))))))
  (.ite (.eqI (.at (.x 1) (.x 1)) (.c 32))
  (.ite (.eqI (.at (.x 1) (.x 1)) (.c 32))
  (.call (.c true) false 54 [(.one (.pt 0)), (.one (.i .i64 (.c 1)))] (.tup []) ⟨0, 0, 0, 0, 0, 0⟩
  (.again 0 ⟨0, 0, 0, 0, 0, 1⟩ ⟨0, 0, 0, 0, 0, 1⟩ ⟨[], [], [], [], [], []⟩))
  (.ite (.eqI (.at (.x 1) (.x 1)) (.c 35))
  (.call (.c true) false 55 [(.one (.pt 0)), (.one (.c (.fn 56)))] (.p (.one (.i .i64 (.x 2)))) ⟨1, 0, 0, 0, 0, 0⟩
  (.call (.c true) false 54 [(.one (.pt 0)), (.one (.i .i64 (.x 2)))] (.tup []) ⟨0, 0, 0, 0, 0, 0⟩
  (.again 0 ⟨0, 0, 0, 0, 0, 1⟩ ⟨0, 0, 0, 0, 0, 1⟩ ⟨[], [], [], [], [], []⟩)))
  (.ret (.tup []))))
  (.ite (.eqI (.at (.x 1) (.x 1)) (.c 9))
  (.ite (.eqI (.at (.x 1) (.x 1)) (.c 9))
  (.call (.c true) false 54 [(.one (.pt 0)), (.one (.i .i64 (.c 1)))] (.tup []) ⟨0, 0, 0, 0, 0, 0⟩
  (.again 0 ⟨0, 0, 0, 0, 0, 1⟩ ⟨0, 0, 0, 0, 0, 1⟩ ⟨[], [], [], [], [], []⟩))
  (.ite (.eqI (.at (.x 1) (.x 1)) (.c 35))
  (.call (.c true) false 55 [(.one (.pt 0)), (.one (.c (.fn 56)))] (.p (.one (.i .i64 (.x 2)))) ⟨1, 0, 0, 0, 0, 0⟩
  (.call (.c true) false 54 [(.one (.pt 0)), (.one (.i .i64 (.x 2)))] (.tup []) ⟨0, 0, 0, 0, 0, 0⟩
  (.again 0 ⟨0, 0, 0, 0, 0, 1⟩ ⟨0, 0, 0, 0, 0, 1⟩ ⟨[], [], [], [], [], []⟩)))
  (.ret (.tup []))))
  (.ite (.eqI (.at (.x 1) (.x 1)) (.c 13))
  (.call (.c true) false 54 [(.one (.pt 0)), (.one (.i .i64 (.c 1)))] (.tup []) ⟨0, 0, 0, 0, 0, 0⟩
  (.again 0 ⟨0, 0, 0, 0, 0, 1⟩ ⟨0, 0, 0, 0, 0, 1⟩ ⟨[], [], [], [], [], []⟩))
  (.ite (.eqI (.at (.x 1) (.x 1)) (.c 35))
  (.call (.c true) false 55 [(.one (.pt 0)), (.one (.c (.fn 56)))] (.p (.one (.i .i64 (.x 2)))) ⟨1, 0, 0, 0, 0, 0⟩
  (.call (.c true) false 54 [(.one (.pt 0)), (.one (.i .i64 (.x 2)))] (.tup []) ⟨0, 0, 0, 0, 0, 0⟩
  (.again 0 ⟨0, 0, 0, 0, 0, 1⟩ ⟨0, 0, 0, 0, 0, 1⟩ ⟨[], [], [], [], [], []⟩)))
  (.ret (.tup []))))))))))))))))))))))
theorem gen_skip : genFn ⟨true, []⟩ Tryd.prog (fun l => ([⟨[], [2, 3, 4, 5, 6, 7, 8, 9, 10, 11, 12, 13, 14, 15, 16, 17, 18, 19, 20, 22, 21, 24, 23, 25, 26, 28, 27, 29, 30, 31, 32, 33, 34, 35, 36, 37, 38, 39, 40, 41, 42, 43, 44], [0]⟩] : List LAnn).getD l ⟨[], [], []⟩) Tryd.f31 = fm_skip := by kernel_rfl
theorem ps_skip : freshPs Tryd.prog .zero Tryd.f31.params.toList = some ([(.one (.pt 0))], ⟨0, 0, 0, 0, 0, 1⟩) := by kernel_rfl
def runSpec (p : Int → Bool) (b : Nat) (h : Hp) (φ : Value → Hp → Prop) : Prop :=
  ∃ s a l c T, h b = some ⟨rc s a l c, T⟩ ∧ 0 ≤ a ∧ a ≤ s.length ∧ s.length ≤ 1000000 ∧ φ (.int .i64 (rn p s a.toNat)) h
def ctRun : Ct Tryd.prog where
  f := 55
  spec := fun args h φ =>
    (∃ b, args = [.pointer (some ⟨b, 0, none⟩), .func (.func 35) #[] #[]] ∧ runSpec dgB b h φ) ∨ (∃ b, args = [.pointer (some ⟨b, 0, none⟩), .func (.func 57) #[] #[]] ∧ runSpec inB b h φ) ∨
    (∃ b, args = [.pointer (some ⟨b, 0, none⟩), .func (.func 56) #[] #[]] ∧ runSpec nlB b h φ)
  ok := by
    rintro args h φ w hc hH
    rcases hc with ⟨b, rfl, s, a, l, c, T, hb, h0, ha, hs, hφ⟩ | ⟨b, rfl, s, a, l, c, T, hb, h0, ha, hs, hφ⟩ | ⟨b, rfl, s, a, l, c, T, hb, h0, ha, hs, hφ⟩
    all_goals
      obtain ⟨h, rfl⟩ : ∃ h', h = Hp.set h' b ⟨rc s a l c, T⟩ := ⟨h, set_self hb⟩
      obtain ⟨n, rfl⟩ : ∃ n : Nat, a = n := ⟨a.toNat, by omega⟩
      rw [Int.toNat_natCast] at hφ
    · exact run_dg (by omega) hs h φ hφ w hH
    · exact run_in (by omega) hs h φ hφ w hH
    · exact run_nl (by omega) hs h φ hφ w hH
def atOf (h : Hp) (b : Nat) : Int :=
  match h b with
  | some ⟨[_, .int _ a, _, _], _⟩ => a
  | _ => 0
theorem atOf_set (h : Hp) (b : Nat) (s : List UInt8) (a l c : Int) (T : Nat) : atOf (h.set b ⟨rc s a l c, T⟩) b = a := by unfold atOf; rw [set_same]; rfl
end Go.Proofs.YthlakehilhpojaaDoor
namespace Go.Proofs.YthlakehilhpojaaDoor
open Go.RowKit
attribute [local go_sem] says_tt says_ff says_need says_ite says_call says_callK says_load says_store says_mk says_new says_mks says_str says_ret says_again says_app BE.den IE.den SE.den LE.den AE.den CE.den PE.den VE.den KV.val Got.den Got.cnt exI allI exL allL Ctx.push Ctx.heap Ctx.cut Ctx.bare Ctx.mark Inc.blank List.getD_cons_zero List.getD_cons_succ List.cons_append List.nil_append List.append_nil List.map_cons List.map_nil List.replicate_zero List.replicate_succ specOf ltB_t leB_t ltB_f leB_f slc_val slc_nil slc_inj pt_val pt_nil hle_noHeap hle_refl hread_set hwrite_set set_same set_set noHeap_at B_inj ones_nil and_assoc
def skipInv (s : List UInt8) (a : Nat) (p : Int × Int) (T b : Nat) (h : Hp) (_ : Nat) (C : Ctx) : Prop :=
  ∃ k : Nat, C = ⟨[], [], [], [], [], [some (b, 0)], h.set b ⟨rc s k (adv p (sub s a k)).1 (adv p (sub s a k)).2, T⟩, noM⟩ ∧ a ≤ k ∧ k ≤ s.length ∧ ski false s a = (k - a) + ski false s k
set_option maxHeartbeats 8000000 in
def ctSkip : Ct Tryd.prog where
  f := 31
  spec := fun args h φ => ∃ b s, ∃ a : Nat, ∃ p : Int × Int, ∃ T, args = [.pointer (some ⟨b, 0, none⟩)] ∧ h b = some ⟨rc s a p.1 p.2, T⟩ ∧ a ≤ s.length ∧ s.length ≤ 100000 ∧ 0 ≤ p.1 ∧ p.1 ≤ 100000 ∧ 0 ≤ p.2 ∧ p.2 ≤ 100000 ∧
    φ (.tuple #[]) (h.set b ⟨rc s (a + ski false s a : Nat) (adv p (sub s a (a + ski false s a))).1 (adv p (sub s a (a + ski false s a))).2, T⟩)
  ok := by
    rintro args h φ w ⟨b, s, a, p, T, rfl, hb, ha, hs, p1, p2, p3, p4, hφ⟩ hH
    obtain ⟨h, rfl⟩ : ∃ h', h = Hp.set h' b ⟨rc s a p.1 p.2, T⟩ := ⟨h, set_self hb⟩
    rw [set_set] at hφ
    refine by_fm Tryd.func31 gen_skip ps_skip [ctPass, ctRun] φ (skipInv s a p T b h) (fun _ C => (s.length - atOf C.h b).toNat) ⟨[], [], [], [], [], [some (b, 0)], h.set b ⟨rc s a p.1 p.2, T⟩, noM⟩ ⟨rfl, rfl, rfl, rfl, rfl, rfl⟩ ones_nil ?_ w hH rfl
    refine loop_intro ⟨a, by rw [sub_same, adv_nil]; rfl, Nat.le_refl _, ha, by omega⟩ ?_
    rintro i bb ss v ll pp hh M ⟨k, hC, h1, h2, h3⟩ hM
    cases hC
    simp only [atOf_set] at hM
    have hbd := adv_bd p (sub s a k) p1 p3
    rw [sub_len s h2] at hbd
    generalize hq : adv p (sub s a k) = q at *
    obtain ⟨L, Co⟩ := q
    simp only at hbd hM ⊢
    have hq' : ∀ (n : Nat) (x L' C' : Int), x = (k : Int) + n → k + n ≤ s.length → 0 < n → adv p (sub s a (k + n)) = (L', C') → ski false s k = n + ski false s (k + n) →
        skipInv s a p T b h 0 ⟨[], [], [], [], [], [some (b, 0)], h.set b ⟨[.string (B s), .int .i64 x, .int .i64 L', .int .i64 C'], T⟩, noM⟩ ∧ ((s.length : Int) - atOf (h.set b ⟨[.string (B s), .int .i64 x, .int .i64 L', .int .i64 C'], T⟩) b).toNat < M 0 := by
      intro n x L' C' hx hn hn0 he hsk
      have e : ([.string (B s), .int .i64 x, .int .i64 L', .int .i64 C'] : List Value) = rc s ((k + n : Nat) : Int) L' C' := by rw [hx]; rfl
      rw [e]
      refine ⟨⟨k + n, by rw [he], by omega, hn, by omega⟩, ?_⟩
      rw [atOf_set, hM]
      omega
    have done : ski false s k = 0 → φ (.tuple #[]) (h.set b ⟨[.string (B s), .int .i64 k, .int .i64 L, .int .i64 Co], T⟩) := by
      intro h0
      rw [h0] at h3
      have e : a + ski false s a = k := by omega
      rw [e, hq] at hφ
      exact hφ
    by_cases hk : k < s.length
    · have hne : ¬ ((k : Int) = s.length) := by omega
      have hlt : (k : Int) < s.length := by omega
      rcases (by omega : bt s k = 10 ∨ bt s k = 32 ∨ bt s k = 9 ∨ bt s k = 13 ∨ bt s k = 35 ∨ (bt s k ≠ 10 ∧ bt s k ≠ 32 ∧ bt s k ≠ 9 ∧ bt s k ≠ 13 ∧ bt s k ≠ 35)) with hb | hb | hb | hb | hb | hb
      · have ha' := hq' 1 (k + 1) (L + 1) 1 (by omega) (by omega) (by omega) (by rw [adv_snoc p s h1 hk, hq, ad, if_pos hb]) (by rw [ski_blank hk (.inl hb)]; omega)
        simp [go_sem, rc, ctPass, hne, hlt, hb]
        (repeat' apply And.intro) <;> first | omega | exact ha'.1 | exact ha'.2
      · have ha' := hq' 1 (k + 1) L (Co + 1) (by omega) (by omega) (by omega) (by rw [adv_snoc p s h1 hk, hq, ad, if_neg (by omega)]) (by rw [ski_blank hk (.inr (.inl hb))]; omega)
        simp [go_sem, rc, ctPass, hne, hlt, hb]
        (repeat' apply And.intro) <;> first | omega | exact ha'.1 | exact ha'.2
      · have ha' := hq' 1 (k + 1) L (Co + 1) (by omega) (by omega) (by omega) (by rw [adv_snoc p s h1 hk, hq, ad, if_neg (by omega)]) (by rw [ski_blank hk (.inr (.inr (.inl hb)))]; omega)
        simp [go_sem, rc, ctPass, hne, hlt, hb]
        (repeat' apply And.intro) <;> first | omega | exact ha'.1 | exact ha'.2
      · have ha' := hq' 1 (k + 1) L (Co + 1) (by omega) (by omega) (by omega) (by rw [adv_snoc p s h1 hk, hq, ad, if_neg (by omega)]) (by rw [ski_blank hk (.inr (.inr (.inr hb)))]; omega)
        simp [go_sem, rc, ctPass, hne, hlt, hb]
        (repeat' apply And.intro) <;> first | omega | exact ha'.1 | exact ha'.2
      · have hle := rn_le (p := nlB) (s := s) (i := k) (by omega)
        have hpos : 0 < rn nlB s k := by rw [rn_yes hk (by rw [hb]; rfl)]; omega
        have ha' := hq' (rn nlB s k) (k + rn nlB s k) L (Co + rn nlB s k) (by omega) hle hpos (by
          rw [sub_sub s h1 (Nat.le_add_right k _) hle, adv_app, hq, adv_flat _ s hle (fun j h1 h2 => by
            have := (rn_in (p := nlB) h1 h2).2
            simpa [nlB] using this)]) (by rw [ski_hash hk hb])
        simp [go_sem, rc, ctPass, ctRun, runSpec, hne, hlt, hb]
        (repeat' apply And.intro) <;> first | omega | exact ha'.1 | exact ha'.2
      · obtain ⟨b1, b2, b3, b4, b5⟩ := hb
        have hd := done (ski_none hk ⟨b1, b2, b3, b4, b5⟩)
        simp [go_sem, rc, hne, hlt, b1, b2, b3, b4, b5]
        (repeat' apply And.intro) <;> first | omega | exact hd
    · have heq : (k : Int) = s.length := by omega
      have hd := done (ski_end (by omega) _)
      simp [go_sem, rc, ← heq]
      exact hd
end Go.Proofs.YthlakehilhpojaaDoor
namespace Go.Proofs.YthlakehilhpojaaDoor
open Go.RowKit
attribute [local go_sem] says_tt says_ff says_need says_ite says_call says_callK says_load says_store says_mk says_new says_mks says_str says_ret says_again says_app BE.den IE.den SE.den LE.den AE.den CE.den PE.den VE.den KV.val Got.den Got.cnt exI allI exL allL Ctx.push Ctx.heap Ctx.cut Ctx.bare Ctx.mark Inc.blank List.getD_cons_zero List.getD_cons_succ List.cons_append List.nil_append List.append_nil List.map_cons List.map_nil List.replicate_zero List.replicate_succ specOf ltB_t leB_t ltB_f leB_f slc_val slc_nil slc_inj pt_val pt_nil hle_noHeap hle_refl hread_set hwrite_set set_same set_set noHeap_at B_inj ones_nil and_assoc
def fm_rinner : Fm := (.loop 0 ⟨[(.x 0)], [], [], [], [], []⟩
  (.need (.lt (.x 1) (.len (.x 0))) (.and (.le (.c 0) (.x 1)) (.lt (.x 1) (.len (.x 0))))
  (.call (.lt (.x 1) (.len (.x 0))) false 25 [(.one (.i .u8 (.at (.x 0) (.x 1))))] (.p (.one (.i .i64 (.x 2)))) ⟨1, 0, 0, 0, 0, 0⟩
  (.ite (.and (.lt (.x 1) (.len (.x 0))) (.lt (.c 0) (.x 2)))
  (.need (.c true) (.and (.le (.c (-9223372036854775808)) (.add (.x 1) (.c 1))) (.le (.add (.x 1) (.c 1)) (.c 9223372036854775807)))
  (.again 0 ⟨1, 0, 1, 0, 0, 0⟩ ⟨2, 0, 1, 0, 0, 0⟩ ⟨[(.add (.x 1) (.c 1))], [], [], [], [], []⟩))
  (.ret (.p (.one (.i .i64 (.x 1)))))))))
theorem gen_rinner : genFn ⟨true, []⟩ Tryd.prog (fun l => ([⟨[1], [5, 6, 7, 8, 9, 10, 11, 12, 13, 14, 15, 16, 17], []⟩] : List LAnn).getD l ⟨[], [], []⟩) Tryd.f26 = fm_rinner := by kernel_rfl
theorem ps_rinner : freshPs Tryd.prog .zero Tryd.f26.params.toList = some ([(.one (.s (.x 0))), (.one (.i .i64 (.x 0)))], ⟨1, 0, 1, 0, 0, 0⟩) := by kernel_rfl
def fm_rskip : Fm := (.loop 0 ⟨[(.x 0), (.c 0)], [(.c false)], [], [], [], []⟩
  (.ite (.lt (.x 1) (.len (.x 0)))
  (.need (.c true) (.and (.le (.c 0) (.x 1)) (.lt (.x 1) (.len (.x 0))))
  (.ite (.eqI (.at (.x 0) (.x 1)) (.c 35))
  (.ite (.eqI (.at (.x 0) (.x 1)) (.c 10))
  (.ite (.and (.and (.and (.not (.eqI (.at (.x 0) (.x 1)) (.c 32))) (.not (.eqI (.at (.x 0) (.x 1)) (.c 9)))) (.not (.eqI (.at (.x 0) (.x 1)) (.c 13)))) (.not (.eqI (.at (.x 0) (.x 1)) (.c 10))))
  (.ret (.p (.one (.i .i64 (.x 1)))))
  (.need (.c true) (.and (.le (.c (-9223372036854775808)) (.add (.x 1) (.c 1))) (.le (.add (.x 1) (.c 1)) (.c 9223372036854775807)))
  (.again 0 ⟨1, 0, 1, 0, 0, 0⟩ ⟨3, 1, 1, 0, 0, 0⟩ ⟨[(.add (.x 1) (.c 1)), (.x 2)], [(.c false)], [], [], [], []⟩)))
  (.need (.c true) (.and (.le (.c (-9223372036854775808)) (.add (.x 1) (.c 1))) (.le (.add (.x 1) (.c 1)) (.c 9223372036854775807)))
  (.again 0 ⟨1, 0, 1, 0, 0, 0⟩ ⟨3, 1, 1, 0, 0, 0⟩ ⟨[(.add (.x 1) (.c 1)), (.x 2)], [(.c true)], [], [], [], []⟩)))
  (.ite (.eqI (.at (.x 0) (.x 1)) (.c 10))
  (.ite (.and (.and (.and (.not (.eqI (.at (.x 0) (.x 1)) (.c 32))) (.not (.eqI (.at (.x 0) (.x 1)) (.c 9)))) (.not (.eqI (.at (.x 0) (.x 1)) (.c 13)))) (.not (.eqI (.at (.x 0) (.x 1)) (.c 10))))
  (.ret (.p (.one (.i .i64 (.x 1)))))
  (.need (.c true) (.and (.le (.c (-9223372036854775808)) (.add (.x 1) (.c 1))) (.le (.add (.x 1) (.c 1)) (.c 9223372036854775807)))
  (.again 0 ⟨1, 0, 1, 0, 0, 0⟩ ⟨3, 1, 1, 0, 0, 0⟩ ⟨[(.add (.x 1) (.c 1)), (.x 2)], [(.c false)], [], [], [], []⟩)))
  (.ite (.and (.and (.and (.and (.not (.x 0)) (.not (.eqI (.at (.x 0) (.x 1)) (.c 32)))) (.not (.eqI (.at (.x 0) (.x 1)) (.c 9)))) (.not (.eqI (.at (.x 0) (.x 1)) (.c 13)))) (.not (.eqI (.at (.x 0) (.x 1)) (.c 10))))
  (.ret (.p (.one (.i .i64 (.x 1)))))
  (.need (.c true) (.and (.le (.c (-9223372036854775808)) (.add (.x 1) (.c 1))) (.le (.add (.x 1) (.c 1)) (.c 9223372036854775807)))
  (.again 0 ⟨1, 0, 1, 0, 0, 0⟩ ⟨3, 1, 1, 0, 0, 0⟩ ⟨[(.add (.x 1) (.c 1)), (.x 2)], [(.x 0)], [], [], [], []⟩))))))
  (.ret (.p (.one (.i .i64 (.x 1)))))))
theorem gen_rskip : genFn ⟨true, []⟩ Tryd.prog (fun l => ([⟨[5, 4, 1], [7, 8, 9, 10, 11, 12, 13, 6, 14, 15, 16, 17, 18, 19, 20, 21, 22, 23, 24, 25, 26, 27, 28, 29, 30, 31, 32, 33, 34, 35, 36, 37, 38], []⟩] : List LAnn).getD l ⟨[], [], []⟩) Tryd.f13 = fm_rskip := by kernel_rfl
theorem ps_rskip : freshPs Tryd.prog .zero Tryd.f13.params.toList = some ([(.one (.s (.x 0))), (.one (.i .i64 (.x 0)))], ⟨1, 0, 1, 0, 0, 0⟩) := by kernel_rfl
def fm_place : Fm := (.loop 0 ⟨[(.c 1), (.c 1), (.c 0)], [], [], [], [], []⟩
  (.ite (.lt (.x 3) (.x 0))
  (.need (.c true) (.and (.le (.c (-9223372036854775808)) (.add (.x 2) (.c 1))) (.le (.add (.x 2) (.c 1)) (.c 9223372036854775807)))
  (.need (.c true) (.and (.le (.c 0) (.x 3)) (.lt (.x 3) (.len (.x 0))))
  (.ite (.eqI (.at (.x 0) (.x 3)) (.c 10))
  (.need (.c true) (.and (.le (.c (-9223372036854775808)) (.add (.x 1) (.c 1))) (.le (.add (.x 1) (.c 1)) (.c 9223372036854775807)))
  (.need (.c true) (.and (.le (.c (-9223372036854775808)) (.add (.x 3) (.c 1))) (.le (.add (.x 3) (.c 1)) (.c 9223372036854775807)))
  (.again 0 ⟨1, 0, 1, 0, 0, 0⟩ ⟨4, 0, 1, 0, 0, 0⟩ ⟨[(.add (.x 1) (.c 1)), (.c 1), (.add (.x 3) (.c 1))], [], [], [], [], []⟩)))
  (.need (.c true) (.and (.le (.c (-9223372036854775808)) (.add (.x 3) (.c 1))) (.le (.add (.x 3) (.c 1)) (.c 9223372036854775807)))
  (.again 0 ⟨1, 0, 1, 0, 0, 0⟩ ⟨4, 0, 1, 0, 0, 0⟩ ⟨[(.x 1), (.add (.x 2) (.c 1)), (.add (.x 3) (.c 1))], [], [], [], [], []⟩)))))
  (.ret (.tup [(.one (.i .i64 (.x 1))), (.one (.i .i64 (.x 2)))]))))
theorem gen_place : genFn ⟨true, []⟩ Tryd.prog (fun l => ([⟨[7, 6, 8], [9, 10, 11, 14, 15, 16, 17, 18, 19, 20, 21, 12, 13], []⟩] : List LAnn).getD l ⟨[], [], []⟩) Tryd.f14 = fm_place := by kernel_rfl
theorem ps_place : freshPs Tryd.prog .zero Tryd.f14.params.toList = some ([(.one (.s (.x 0))), (.one (.i .i64 (.x 0)))], ⟨1, 0, 1, 0, 0, 0⟩) := by kernel_rfl
set_option maxHeartbeats 2000000 in
def ctRInner : Ct Tryd.prog where
  f := 26
  spec := fun args h φ => ∃ s i, args = [.string (B s), .int .i64 i] ∧ 0 ≤ i ∧ i ≤ s.length ∧ s.length ≤ 1000000 ∧ φ (.int .i64 (i + rn inB s i.toNat)) h
  ok := by
    rintro args h φ w ⟨s, i, rfl, h0, h1, h2, hφ⟩ hH
    obtain ⟨a, rfl⟩ : ∃ n : Nat, i = n := ⟨i.toNat, by omega⟩
    rw [Int.toNat_natCast] at hφ
    refine by_fm Tryd.func26 gen_rinner ps_rinner [ctKind] φ (fun _ C => ∃ k : Nat, C = ⟨[a, k], [], [s], [], [], [], h, noM⟩ ∧ a ≤ k ∧ k ≤ s.length ∧ rn inB s a = (k - a) + rn inB s k) (fun _ C => (s.length - C.i.getD 1 0).toNat) ⟨[a], [], [s], [], [], [], h, noM⟩ ⟨rfl, rfl, rfl, rfl, rfl, rfl⟩ ones_nil ?_ w hH rfl
    refine loop_intro ⟨a, rfl, Nat.le_refl _, by omega, by omega⟩ ?_
    rintro i bb ss v ll pp hh M ⟨k, hC, h3, h4, h5⟩ hM
    cases hC
    have hM' : M 0 = ((s.length : Int) - k).toNat := hM
    have fin : rn inB s k = 0 → φ (.int .i64 k) h := fun h0 => by
      rw [h0] at h5
      rw [show (k : Int) = (a : Int) + (rn inB s a : Int) by omega]; exact hφ
    by_cases hk : k < s.length
    · have hlt : (k : Int) < s.length := by omega
      by_cases hb : 0 < kdi (bt s k)
      · have hy := rn_yes (p := inB) hk (by simp [inB, hb])
        simp [go_sem, ctKind, hlt, hb, hk]
        (repeat' apply And.intro) <;> first | omega | exact ⟨k + 1, by omega, by omega, by omega, by omega⟩
      · have hn := rn_no (p := inB) hk (by simp [inB]; omega)
        have := fin hn
        simp [go_sem, ctKind, hlt, hb, hk, this]
    · have hge : ¬ ((k : Int) < s.length) := by omega
      have := fin (rn_end (by omega))
      simp [go_sem, ctKind, hge, this]
set_option maxHeartbeats 4000000 in
def ctRSkip : Ct Tryd.prog where
  f := 13
  spec := fun args h φ => ∃ s i, args = [.string (B s), .int .i64 i] ∧ 0 ≤ i ∧ i ≤ s.length ∧ s.length ≤ 1000000 ∧ φ (.int .i64 (i + ski false s i.toNat)) h
  ok := by
    rintro args h φ w ⟨s, i, rfl, h0, h1, h2, hφ⟩ hH
    obtain ⟨a, rfl⟩ : ∃ n : Nat, i = n := ⟨i.toNat, by omega⟩
    rw [Int.toNat_natCast] at hφ
    refine by_fm Tryd.func13 gen_rskip ps_rskip [] φ (fun _ C => ∃ (k : Nat) (y : Int) (note : Bool), C = ⟨[a, k, y], [note], [s], [], [], [], h, noM⟩ ∧ a ≤ k ∧ k ≤ s.length ∧ ski false s a = (k - a) + ski note s k) (fun _ C => (s.length - C.i.getD 1 0).toNat) ⟨[a], [], [s], [], [], [], h, noM⟩ ⟨rfl, rfl, rfl, rfl, rfl, rfl⟩ ones_nil ?_ w hH rfl
    refine loop_intro ⟨a, 0, false, rfl, Nat.le_refl _, by omega, by omega⟩ ?_
    rintro i bb ss v ll pp hh M ⟨k, y, note, hC, h3, h4, h5⟩ hM
    cases hC
    have hM' : M 0 = ((s.length : Int) - k).toNat := hM
    have fin : ski note s k = 0 → φ (.int .i64 k) h := fun h0 => by
      rw [h0] at h5
      rw [show (k : Int) = (a : Int) + (ski false s a : Int) by omega]; exact hφ
    by_cases hk : k < s.length
    · have hlt : (k : Int) < s.length := by omega
      have hs := ski_at hk note
      have step : skP (bt s k) (skG (bt s k) note) = true → ski false s a = (k + 1 - a) + ski (skG (bt s k) note) s (k + 1) := fun h => by rw [h, if_pos rfl] at hs; omega
      have stop : skP (bt s k) (skG (bt s k) note) = false → φ (.int .i64 k) h := fun h => fin (by rw [hs, h]; rfl)
      by_cases e35 : bt s k = 35
      · have := step (by rw [e35]; simp [skG, skP])
        rw [show skG (bt s k) note = true by rw [e35]; simp [skG]] at this
        simp [go_sem, hlt, hk, e35]
        (repeat' apply And.intro) <;> first | omega | exact ⟨k + 1, by omega, by omega, by omega, this⟩
      · by_cases e10 : bt s k = 10
        · have := step (by rw [e10]; simp [skG, skP])
          rw [show skG (bt s k) note = false by rw [e10]; simp [skG]] at this
          simp [go_sem, hlt, hk, e10]
          (repeat' apply And.intro) <;> first | omega | exact ⟨k + 1, by omega, by omega, by omega, this⟩
        · have eG : skG (bt s k) note = note := by
            have f1 : (bt s k == 35) = false := by simpa using e35
            have f2 : (bt s k == 10) = false := by simpa using e10
            simp [skG, f1, f2]
          rw [eG] at step stop
          cases note with
          | true =>
            have := step (by simp [skP])
            simp [go_sem, hlt, hk, e35, e10]
            (repeat' apply And.intro) <;> first | omega | exact ⟨k + 1, by omega, by omega, by omega, this⟩
          | false =>
            by_cases hb : bt s k = 32 ∨ bt s k = 9 ∨ bt s k = 13
            · have := step (by rcases hb with hb | hb | hb <;> rw [hb] <;> rfl)
              rcases hb with hb | hb | hb
              all_goals
                simp [go_sem, hlt, hk, hb]
                (repeat' apply And.intro) <;> first | omega | exact ⟨k + 1, by omega, by omega, by omega, this⟩
            · have b1 : bt s k ≠ 32 := fun h => hb (.inl h)
              have b2 : bt s k ≠ 9 := fun h => hb (.inr (.inl h))
              have b3 : bt s k ≠ 13 := fun h => hb (.inr (.inr h))
              have := stop (by simp [skP, b1, b2, b3, e10])
              simp [go_sem, hlt, hk, e35, e10, b1, b2, b3, this]
    · have hge : ¬ ((k : Int) < s.length) := by omega
      have := fin (ski_end (by omega) _)
      simp [go_sem, hge, this]
set_option maxHeartbeats 2000000 in
def ctPlace : Ct Tryd.prog where
  f := 14
  spec := fun args h φ => ∃ s i, args = [.string (B s), .int .i64 i] ∧ 0 ≤ i ∧ i ≤ s.length ∧ s.length ≤ 1000000 ∧ φ (.tuple #[.int .i64 (adv (1, 1) (sub s 0 i.toNat)).1, .int .i64 (adv (1, 1) (sub s 0 i.toNat)).2]) h
  ok := by
    rintro args h φ w ⟨s, i, rfl, h0, h1, h2, hφ⟩ hH
    obtain ⟨a, rfl⟩ : ∃ n : Nat, i = n := ⟨i.toNat, by omega⟩
    rw [Int.toNat_natCast] at hφ
    refine by_fm Tryd.func14 gen_place ps_place [] φ (fun _ C => ∃ (k : Nat), C = ⟨[a, (adv (1, 1) (sub s 0 k)).1, (adv (1, 1) (sub s 0 k)).2, k], [], [s], [], [], [], h, noM⟩ ∧ k ≤ a) (fun _ C => (a - C.i.getD 3 0).toNat) ⟨[a], [], [s], [], [], [], h, noM⟩ ⟨rfl, rfl, rfl, rfl, rfl, rfl⟩ ones_nil ?_ w hH rfl
    refine loop_intro ⟨0, rfl, Nat.zero_le _⟩ ?_
    rintro i bb ss v ll pp hh M ⟨k, hC, h3⟩ hM
    cases hC
    have hM' : M 0 = ((a : Int) - k).toNat := hM
    have hbd := adv_bd (1, 1) (sub s 0 k) (by decide) (by decide)
    rw [sub_len s (by omega)] at hbd
    by_cases hk : k < a
    · have hlt : (k : Int) < a := by omega
      have hkl : k < s.length := by omega
      have hs := adv_snoc (1, 1) s (Nat.zero_le k) hkl
      generalize hq : adv (1, 1) (sub s 0 k) = q at *
      obtain ⟨L, Co⟩ := q
      simp only at hbd
      by_cases e10 : bt s k = 10
      · rw [ad, if_pos e10] at hs
        simp [go_sem, hlt, hk, hkl, e10]
        (repeat' apply And.intro) <;> first | omega | exact ⟨k + 1, by rw [hs], by rw [hs], by omega, by omega⟩
      · rw [ad, if_neg e10] at hs
        simp [go_sem, hlt, hk, hkl, e10]
        (repeat' apply And.intro) <;> first | omega | exact ⟨k + 1, by rw [hs], by rw [hs], by omega, by omega⟩
    · have hka : k = a := by omega
      subst hka
      simp [go_sem]
      exact hφ
end Go.Proofs.YthlakehilhpojaaDoor
namespace Go.Proofs.YthlakehilhpojaaDoor
open Go.RowKit
attribute [local go_sem] says_tt says_ff says_need says_ite says_call says_callK says_load says_store says_mk says_new says_mks says_str says_ret says_again says_app BE.den IE.den SE.den LE.den AE.den CE.den PE.den VE.den KV.val Got.den Got.cnt exI allI exL allL Ctx.push Ctx.heap Ctx.cut Ctx.bare Ctx.mark Inc.blank List.getD_cons_zero List.getD_cons_succ List.cons_append List.nil_append List.append_nil List.map_cons List.map_nil List.replicate_zero List.replicate_succ specOf ltB_t leB_t ltB_f leB_f slc_val slc_nil slc_inj pt_val pt_nil hle_noHeap hle_refl hread_set hwrite_set set_same set_set noHeap_at B_inj ones_nil and_assoc
def fm_word : Fm := (.ite (.eqS (.x 0) (.c [114, 101, 99]))
  (.ite (.eqS (.x 0) (.c [114, 101, 99]))
  (.ret (.p (.one (.b (.c true)))))
  (.ret (.p (.one (.b (.c false))))))
  (.ite (.eqS (.x 0) (.c [102, 110]))
  (.ite (.eqS (.x 0) (.c [102, 110]))
  (.ret (.p (.one (.b (.c true)))))
  (.ret (.p (.one (.b (.c false))))))
  (.ite (.eqS (.x 0) (.c [118, 97, 114]))
  (.ite (.eqS (.x 0) (.c [118, 97, 114]))
  (.ret (.p (.one (.b (.c true)))))
  (.ret (.p (.one (.b (.c false))))))
  (.ite (.eqS (.x 0) (.c [105, 102]))
  (.ite (.eqS (.x 0) (.c [105, 102]))
  (.ret (.p (.one (.b (.c true)))))
  (.ret (.p (.one (.b (.c false))))))
  (.ite (.eqS (.x 0) (.c [101, 108, 115, 101]))
  (.ite (.eqS (.x 0) (.c [101, 108, 115, 101]))
  (.ret (.p (.one (.b (.c true)))))
  (.ret (.p (.one (.b (.c false))))))
  (.ite (.eqS (.x 0) (.c [119, 104, 105, 108, 101]))
  (.ite (.eqS (.x 0) (.c [119, 104, 105, 108, 101]))
  (.ret (.p (.one (.b (.c true)))))
  (.ret (.p (.one (.b (.c false))))))
  (.ite (.eqS (.x 0) (.c [114, 101, 116, 117, 114, 110]))
  (.ite (.eqS (.x 0) (.c [114, 101, 116, 117, 114, 110]))
  (.ret (.p (.one (.b (.c true)))))
  (.ret (.p (.one (.b (.c false))))))
  (.ite (.eqS (.x 0) (.c [112, 114, 105, 110, 116]))
  (.ite (.eqS (.x 0) (.c [112, 114, 105, 110, 116]))
  (.ret (.p (.one (.b (.c true)))))
  (.ret (.p (.one (.b (.c false))))))
  (.ite (.eqS (.x 0) (.c [116, 114, 117, 101]))
  (.ite (.eqS (.x 0) (.c [116, 114, 117, 101]))
  (.ret (.p (.one (.b (.c true)))))
  (.ret (.p (.one (.b (.c false))))))
  (.ite (.eqS (.x 0) (.c [102, 97, 108, 115, 101]))
  (.ite (.eqS (.x 0) (.c [102, 97, 108, 115, 101]))
  (.ret (.p (.one (.b (.c true)))))
  (.ret (.p (.one (.b (.c false))))))
  (.ite (.eqS (.x 0) (.c [110, 105, 108]))
  (.ite (.eqS (.x 0) (.c [110, 105, 108]))
  (.ret (.p (.one (.b (.c true)))))
  (.ret (.p (.one (.b (.c false))))))
  (.ite (.eqS (.x 0) (.c [109, 97, 107, 101]))
  (.ite (.eqS (.x 0) (.c [109, 97, 107, 101]))
  (.ret (.p (.one (.b (.c true)))))
  (.ret (.p (.one (.b (.c false))))))
  (.ite (.eqS (.x 0) (.c [105, 110, 116]))
  (.ite (.eqS (.x 0) (.c [105, 110, 116]))
  (.ret (.p (.one (.b (.c true)))))
  (.ret (.p (.one (.b (.c false))))))
  (.ite (.eqS (.x 0) (.c [98, 111, 111, 108]))
  (.ite (.eqS (.x 0) (.c [98, 111, 111, 108]))
  (.ret (.p (.one (.b (.c true)))))
  (.ret (.p (.one (.b (.c false))))))
  (.ite (.eqS (.x 0) (.c [115, 116, 114]))
  (.ite (.eqS (.x 0) (.c [115, 116, 114]))
  (.ret (.p (.one (.b (.c true)))))
  (.ret (.p (.one (.b (.c false))))))
  (.ite (.eqS (.x 0) (.c [99, 111, 109, 112]))
  (.ret (.p (.one (.b (.c true)))))
  (.ret (.p (.one (.b (.c false)))))))))))))))))))))
theorem gen_word : genFn ⟨true, []⟩ Tryd.prog (fun l => ([] : List LAnn).getD l ⟨[], [], []⟩) Tryd.f58 = fm_word := by kernel_rfl
theorem ps_word : freshPs Tryd.prog .zero Tryd.f58.params.toList = some ([(.one (.s (.x 0)))], ⟨0, 0, 1, 0, 0, 0⟩) := by kernel_rfl
def fm_rword : Fm := (.mk [(.s (.c [114, 101, 99])), (.s (.c [102, 110])), (.s (.c [118, 97, 114])), (.s (.c [105, 102])), (.s (.c [101, 108, 115, 101])), (.s (.c [119, 104, 105, 108, 101])), (.s (.c [114, 101, 116, 117, 114, 110])), (.s (.c [112, 114, 105, 110, 116])), (.s (.c [116, 114, 117, 101])), (.s (.c [102, 97, 108, 115, 101])), (.s (.c [110, 105, 108])), (.s (.c [109, 97, 107, 101])), (.s (.c [105, 110, 116])), (.s (.c [98, 111, 111, 108])), (.s (.c [115, 116, 114])), (.s (.c [99, 111, 109, 112]))] 9 16
  (.loop 0 ⟨[(.c 0)], [(.c false)], [], [], [], []⟩
  (.ite (.lt (.x 0) (.cnt (.x 0)))
  (.need (.c true) (.and (.and (.le (.c 0) (.x 0)) (.lt (.x 0) (.cnt (.x 0)))) (.nns (.x 0)))
  (.load (.c true) (.el (.x 0) (.x 0) 1 0) 1 [(.s (.x 1))] ⟨0, 0, 1, 0, 0, 0⟩
  (.ite (.eqS (.x 1) (.x 0))
  (.ret (.p (.one (.b (.c true)))))
  (.need (.c true) (.and (.le (.c (-9223372036854775808)) (.add (.x 0) (.c 1))) (.le (.add (.x 0) (.c 1)) (.c 9223372036854775807)))
  (.again 0 ⟨0, 0, 1, 0, 1, 0⟩ ⟨1, 1, 1, 0, 1, 0⟩ ⟨[(.add (.x 0) (.c 1))], [(.x 0)], [], [], [], []⟩)))))
  (.ret (.p (.one (.b (.c false))))))))
theorem gen_rword : genFn ⟨true, []⟩ Tryd.prog (fun l => ([⟨[2, 8], [9, 10, 4, 11, 12, 13, 14, 15, 16, 17], []⟩] : List LAnn).getD l ⟨[], [], []⟩) Tryd.f27 = fm_rword := by kernel_rfl
theorem ps_rword : freshPs Tryd.prog .zero Tryd.f27.params.toList = some ([(.one (.s (.x 0)))], ⟨0, 0, 1, 0, 0, 0⟩) := by kernel_rfl
def fm_name : Fm := (.call (.c true) false 55 [(.one (.pt 0)), (.one (.c (.fn 57)))] (.p (.one (.i .i64 (.x 4)))) ⟨1, 0, 0, 0, 0, 0⟩
  (.load (.c true) (.pt 0 0) 1 [(.s (.x 1))] ⟨0, 0, 1, 0, 0, 0⟩
  (.load (.c true) (.pt 0 1) 1 [(.i .i64 (.x 5))] ⟨1, 0, 0, 0, 0, 0⟩
  (.load (.c true) (.pt 0 1) 1 [(.i .i64 (.x 6))] ⟨1, 0, 0, 0, 0, 0⟩
  (.need (.c true) (.nnp 0)
  (.need (.c true) (.nnp 0)
  (.need (.c true) (.nnp 0)
  (.need (.c true) (.nnp 0)
  (.need (.c true) (.nnp 0)
  (.need (.c true) (.nnp 0)
  (.need (.c true) (.and (.le (.c (-9223372036854775808)) (.add (.x 6) (.x 4))) (.le (.add (.x 6) (.x 4)) (.c 9223372036854775807)))
  (.need (.c true) (.and (.and (.le (.c 0) (.add (.x 6) (.x 4))) (.le (.add (.x 6) (.x 4)) (.len (.x 1)))) (.and (.le (.c 0) (.x 5)) (.le (.x 5) (.add (.x 6) (.x 4)))))
  (.need (.c true) (.and (.le (.c 0) (.c 0)) (.lt (.c 0) (.len (.sub (.x 1) (.x 5) (.add (.x 6) (.x 4))))))
  (.call (.c true) false 33 [(.one (.i .u8 (.at (.sub (.x 1) (.x 5) (.add (.x 6) (.x 4))) (.c 0))))] (.p (.one (.b (.x 0)))) ⟨0, 1, 0, 0, 0, 0⟩
  (.ite (.x 0)
  (.call (.c true) false 54 [(.one (.pt 0)), (.one (.i .i64 (.x 4)))] (.tup []) ⟨0, 0, 0, 0, 0, 0⟩
  (.ret (.p (.agg [(.i .u8 (.c 2)), (.i .i64 (.x 1)), (.i .i64 (.x 2)), (.i .i64 (.x 3)), (.s (.sub (.x 1) (.x 5) (.add (.x 6) (.x 4))))]))))
  (.call (.c true) false 58 [(.one (.s (.sub (.x 1) (.x 5) (.add (.x 6) (.x 4)))))] (.p (.one (.b (.x 1)))) ⟨0, 1, 0, 0, 0, 0⟩
  (.ite (.x 1)
  (.call (.c true) false 54 [(.one (.pt 0)), (.one (.i .i64 (.x 4)))] (.tup []) ⟨0, 0, 0, 0, 0, 0⟩
  (.ret (.p (.agg [(.i .u8 (.c 6)), (.i .i64 (.x 1)), (.i .i64 (.x 2)), (.i .i64 (.x 3)), (.s (.sub (.x 1) (.x 5) (.add (.x 6) (.x 4))))]))))
  (.call (.c true) false 54 [(.one (.pt 0)), (.one (.i .i64 (.x 4)))] (.tup []) ⟨0, 0, 0, 0, 0, 0⟩
  (.ret (.p (.agg [(.i .u8 (.c 1)), (.i .i64 (.x 1)), (.i .i64 (.x 2)), (.i .i64 (.x 3)), (.s (.sub (.x 1) (.x 5) (.add (.x 6) (.x 4))))])))))))))))))))))))))
theorem gen_name : genFn ⟨true, []⟩ Tryd.prog (fun l => ([] : List LAnn).getD l ⟨[], [], []⟩) Tryd.f34 = fm_name := by kernel_rfl
theorem ps_name : freshPs Tryd.prog .zero Tryd.f34.params.toList = some ([(.one (.pt 0)), (.agg [(.i .u8 (.x 0)), (.i .i64 (.x 1)), (.i .i64 (.x 2)), (.i .i64 (.x 3)), (.s (.x 0))])], ⟨4, 0, 1, 0, 0, 1⟩) := by kernel_rfl
/-- The words. -/
def W16 : List (List UInt8) := [[114, 101, 99], [102, 110], [118, 97, 114], [105, 102], [101, 108, 115, 101], [119, 104, 105, 108, 101], [114, 101, 116, 117, 114, 110], [112, 114, 105, 110, 116], [116, 114, 117, 101], [102, 97, 108, 115, 101], [110, 105, 108], [109, 97, 107, 101], [105, 110, 116], [98, 111, 111, 108], [115, 116, 114], [99, 111, 109, 112]]
def wordB (s : List UInt8) : Bool := W16.contains s
set_option maxHeartbeats 4000000 in
def ctWord : Ct Tryd.prog where
  f := 58
  spec := fun args h φ => ∃ s, args = [.string (B s)] ∧ φ (.bool (wordB s)) h
  ok := by
    rintro args h φ w ⟨s, rfl, hφ⟩ hH
    refine by_fm Tryd.func58 gen_word ps_word [] φ noInv noMeas ⟨[], [], [s], [], [], [], h, noM⟩ ⟨rfl, rfl, rfl, rfl, rfl, rfl⟩ ones_nil ?_ w hH rfl
    by_cases hs : s ∈ W16
    · have e : wordB s = true := by simpa [wordB] using hs
      rw [e] at hφ
      simp only [W16, List.mem_cons, List.not_mem_nil, or_false] at hs
      rcases hs with rfl | rfl | rfl | rfl | rfl | rfl | rfl | rfl | rfl | rfl | rfl | rfl | rfl | rfl | rfl | rfl
      all_goals simp [fm_word, go_sem, hφ]
    · have e : wordB s = false := by simpa [wordB] using hs
      rw [e] at hφ
      simp only [W16, List.mem_cons, List.not_mem_nil, or_false, not_or] at hs
      obtain ⟨h1, h2, h3, h4, h5, h6, h7, h8, h9, h10, h11, h12, h13, h14, h15, h16⟩ := hs
      simp [fm_word, go_sem, hφ, h1, h2, h3, h4, h5, h6, h7, h8, h9, h10, h11, h12, h13, h14, h15, h16]
def wCells : List Value := W16.map fun x => .string (B x)
set_option maxHeartbeats 4000000 in
def ctRWord : Ct Tryd.prog where
  f := 27
  spec := fun args h φ => ∃ s, args = [.string (B s)] ∧ ∀ k, HLe h k → φ (.bool (wordB s)) k
  ok := by
    rintro args h φ w ⟨s, rfl, hφ⟩ hH
    refine by_fm Tryd.func27 gen_rword ps_rword [] φ (fun _ C => ∃ (b : Nat) (i : Nat) (y : Bool), h b = none ∧ C = ⟨[i], [y], [s], [], [⟨some (b, 0), 16, 16⟩], [], h.set b ⟨wCells, 9⟩, noM⟩ ∧ i ≤ 16 ∧ ∀ j, j < i → W16[j]? ≠ some s) (fun _ C => (16 - C.i.getD 0 0).toNat) ⟨[], [], [s], [], [], [], h, noM⟩ ⟨rfl, rfl, rfl, rfl, rfl, rfl⟩ ones_nil ?_ w hH rfl
    rw [fm_rword, says_mk]
    intro b hb
    refine loop_intro ⟨b, 0, false, hb, rfl, by omega, by omega⟩ ?_
    rintro i bb ss v ll pp hh M ⟨b, k, y, hb, hC, h3, h4⟩ hM
    cases hC
    have hM' : M 0 = ((16 : Int) - k).toNat := hM
    have hk := hle_set hb ⟨wCells, 9⟩
    by_cases hlt : k < 16
    · have hlt' : (k : Int) < 16 := by omega
      have hx : k < W16.length := hlt
      have hget : (wCells.drop k).take 1 = [.string (B W16[k])] := by
        rw [List.drop_eq_getElem_cons (by simpa [wCells] using hx)]
        simp [wCells]
      have hwl : wCells.length = 16 := rfl
      by_cases he : W16[k] = s
      · have e : wordB s = true := by rw [← he]; simp [wordB]
        have := hφ _ hk
        rw [e] at this
        simp [go_sem, hlt', hlt, hget, hwl, he, this]
        omega
      · have hne : ∀ j, j < k + 1 → W16[j]? ≠ some s := fun j hj => by
          by_cases hjk : j = k
          · subst hjk; rw [List.getElem?_eq_getElem hx]; simpa using he
          · exact h4 j (by omega)
        simp [go_sem, hlt', hlt, hget, hwl, he]
        refine ⟨by omega, by omega, by omega, ⟨b, hb, k + 1, by cases y <;> simp, by omega, by simpa using hne⟩, by omega⟩
    · have hge : ¬ ((k : Int) < 16) := by omega
      have e : wordB s = false := by
        cases hq : wordB s
        · rfl
        · exfalso
          have hm : s ∈ W16 := by simpa [wordB] using hq
          obtain ⟨j, hj⟩ := List.getElem?_of_mem hm
          have hjl : j < 16 := (List.getElem?_eq_some_iff.1 hj).1
          exact h4 j (by omega) hj
      have := hφ _ hk
      rw [e] at this
      simp [go_sem, hge, this]
/-- A token's cells. -/
def tkv (k l c n : Int) (x : List UInt8) : Value := .agg #[.int .u8 k, .int .i64 l, .int .i64 c, .int .i64 n, .string (B x)]
/-- The kind of a name. -/
def nameK (b : Int) (x : List UInt8) : Int := if kdi b = 2 then 2 else if wordB x then 6 else 1
theorem bt_sub (s : List UInt8) (i j : Nat) (h : i < j) (hj : j ≤ s.length) : bt (sub s i j) 0 = bt s i := by
  unfold sub
  rw [bt_drop, Nat.add_zero]
  unfold bt
  simp [List.getD_eq_getElem?_getD, h]
set_option maxHeartbeats 4000000 in
def ctName : Ct Tryd.prog where
  f := 34
  spec := fun args h φ => ∃ b k l c n x s a L Co T, args = [.pointer (some ⟨b, 0, none⟩), tkv k l c n x] ∧ h b = some ⟨rc s a L Co, T⟩ ∧ 0 ≤ a ∧ a < s.length ∧ s.length ≤ 100000 ∧ 0 ≤ Co ∧ Co ≤ 500000 ∧ inB (bt s a.toNat) = true ∧
    φ (tkv (nameK (bt s a.toNat) (sub s a.toNat (a.toNat + rn inB s a.toNat))) l c n (sub s a.toNat (a.toNat + rn inB s a.toNat))) (h.set b ⟨rc s (a + rn inB s a.toNat) L (Co + rn inB s a.toNat), T⟩)
  ok := by
    rintro args h φ w ⟨b, k, l, c, n, x, s, a, L, Co, T, rfl, hb, h0, h1, h2, c0, c1, hin, hφ⟩ hH
    obtain ⟨h, rfl⟩ : ∃ h', h = Hp.set h' b ⟨rc s a L Co, T⟩ := ⟨h, set_self hb⟩
    obtain ⟨a, rfl⟩ : ∃ n : Nat, a = n := ⟨a.toNat, by omega⟩
    rw [Int.toNat_natCast] at hφ hin
    rw [set_set] at hφ
    have hle := rn_le (p := inB) (s := s) (i := a) (by omega)
    have hy := rn_yes (p := inB) (s := s) (i := a) (by omega) hin
    have hb0 := bt_sub s a (a + rn inB s a) (by omega) hle
    have hsl := sub_len s (i := a) hle
    refine by_fm Tryd.func34 gen_name ps_name [ctRun, ctGreat, ctWord, ctPass] φ noInv noMeas ⟨[k, l, c, n], [], [x], [], [], [some (b, 0)], h.set b ⟨rc s a L Co, T⟩, noM⟩ ⟨rfl, rfl, rfl, rfl, rfl, rfl⟩ ones_nil ?_ w hH rfl
    generalize hN : rn inB s a = N at *
    have e1 : ((a : Int) + (N : Int)).toNat = a + N := by omega
    have e2 : List.drop a (List.take (a + N) s) = sub s a (a + N) := rfl
    cases hg : grB (bt s a)
    · have hk : ¬ kdi (bt s a) = 2 := by simpa [grB] using hg
      cases hw : wordB (sub s a (a + N))
      · rw [nameK, if_neg hk, hw] at hφ
        simp [fm_name, go_sem, rc, ctRun, runSpec, ctGreat, ctWord, ctPass, tkv, hN, e1, e2, hb0, hsl, hg, hw]
        (repeat' apply And.intro) <;> first | omega | simpa [rc, tkv] using hφ
      · rw [nameK, if_neg hk, hw] at hφ
        simp [fm_name, go_sem, rc, ctRun, runSpec, ctGreat, ctWord, ctPass, tkv, hN, e1, e2, hb0, hsl, hg, hw]
        (repeat' apply And.intro) <;> first | omega | simpa [rc, tkv] using hφ
    · have hk : kdi (bt s a) = 2 := by simpa [grB] using hg
      rw [nameK, if_pos hk] at hφ
      simp [fm_name, go_sem, rc, ctRun, runSpec, ctGreat, ctWord, ctPass, tkv, hN, e1, e2, hb0, hsl, hg]
      (repeat' apply And.intro) <;> first | omega | simpa [rc, tkv] using hφ
end Go.Proofs.YthlakehilhpojaaDoor
namespace Go.Proofs
open Go.Shelf
def Tryd.lays169_ren : Go.Shelf.Ren := ⟨fun | 169 => 85 | n => n, fun | 70 => 109 | 9 => 9 | 0 => 0 | 72 => 111 | 37 => 75 | 127 => 117 | 3 => 3 | 5 => 5 | n => n, fun | n => n⟩
theorem Tryd.lays169 : Go.Proofs.Lays.n169 Tryd.prog Tryd.lays169_ren := {
  mixed := by kernel_rfl
  f169 := Tryd.func85.trans (congrArg some (by kernel_rfl))
  t0 := Tryd.underlying0
  a0 := Tryd.isAgg0
  z0 := Tryd.sizeOf0
  v0 := Tryd.zeroValue0
  t3 := Tryd.underlying3
  a3 := Tryd.isAgg3
  z3 := Tryd.sizeOf3
  v3 := Tryd.zeroValue3
  t9 := Tryd.underlying9
  a9 := Tryd.isAgg9
  z9 := Tryd.sizeOf9
  v9 := Tryd.zeroValue9
  t37 := Tryd.underlying75
  a37 := Tryd.isAgg75
  z37 := Tryd.sizeOf75
  v37 := Tryd.zeroValue75
  t70 := Tryd.underlying109
  a70 := Tryd.isAgg109
  z70 := Tryd.sizeOf109
  v70 := Tryd.zeroValue109
  t72 := Tryd.underlying111
  a72 := Tryd.isAgg111
  z72 := Tryd.sizeOf111
  v72 := Tryd.zeroValue111
  t127 := Tryd.underlying117
  a127 := Tryd.isAgg117
  z127 := Tryd.sizeOf117
  v127 := Tryd.zeroValue117 }
theorem Tryd.Builder_Extra_169 : Builder.Extra Tryd.prog Tryd.lays169_ren := {
  sizeBuilder := by kernel_rfl
  liesBuilder := by kernel_rfl
  t5 := Tryd.underlying5
  a5 := Tryd.isAgg5
  z5 := Tryd.sizeOf5
  v5 := Tryd.zeroValue5
  infoByte := by kernel_rfl
  cellsByte := by kernel_rfl
  sizeByte := by kernel_rfl
  neB5 := by decide }
open Go.RowKit in
theorem Tryd.Builder_String (B b : Nat) (l : List UInt8) (w : World) (h : Lib.IsBuilder 111 5 B b (Lib.byteCells l) w) (h0 : l ≠ []) :
    Calls Tryd.prog 85 #[.pointer (some ⟨b, 0, none⟩)] w fun e w' => e = .returned (.string ⟨l.toArray⟩) ∧ Below B w w' := Any.Builder_String Tryd.lays169 Tryd.Builder_Extra_169 B b l w h h0
open Go.RowKit in
theorem Tryd.Builder_String_empty (B b : Nat) (w : World) (h : Lib.IsBuilder 111 5 B b [] w) (hBw : B ≤ w.heap.size) :
    Calls Tryd.prog 85 #[.pointer (some ⟨b, 0, none⟩)] w fun e w' => e = .returned (.string ⟨#[]⟩) ∧ Below B w w' := Any.Builder_String_empty Tryd.lays169 Tryd.Builder_Extra_169 B b w h hBw
open Go.RowKit in
theorem Tryd.Builder_String_any (B b : Nat) (l : List UInt8) (w : World) (h : Lib.IsBuilder 111 5 B b (Lib.byteCells l) w) (hBw : B ≤ w.heap.size) :
    Calls Tryd.prog 85 #[.pointer (some ⟨b, 0, none⟩)] w fun e w' => e = .returned (.string ⟨l.toArray⟩) ∧ Below B w w' := Any.Builder_String_any Tryd.lays169 Tryd.Builder_Extra_169 B b l w h hBw
def Tryd.lays231_ren : Go.Shelf.Ren := ⟨fun | 231 => 73 | n => n, fun | 9 => 9 | 5 => 5 | 3 => 3 | 4 => 4 | n => n, fun | n => n⟩
theorem Tryd.lays231 : Go.Proofs.Lays.n231 Tryd.prog Tryd.lays231_ren := {
  mixed := by kernel_rfl
  f231 := Tryd.func73.trans (congrArg some (by kernel_rfl))
  t3 := Tryd.underlying3
  a3 := Tryd.isAgg3
  z3 := Tryd.sizeOf3
  v3 := Tryd.zeroValue3
  t4 := Tryd.underlying4
  a4 := Tryd.isAgg4
  z4 := Tryd.sizeOf4
  v4 := Tryd.zeroValue4
  t5 := Tryd.underlying5
  a5 := Tryd.isAgg5
  z5 := Tryd.sizeOf5
  v5 := Tryd.zeroValue5
  t9 := Tryd.underlying9
  a9 := Tryd.isAgg9
  z9 := Tryd.sizeOf9
  v9 := Tryd.zeroValue9 }
open Go.RowKit in
theorem Tryd.strings_trimLeftByte (s : ByteArray) (c : UInt8) (w : World) :
    Calls Tryd.prog 73 #[.string s, .int .u8 c.toNat] w fun e w' => e = .returned (.string ⟨(Lib.trimLeftB s.data.toList c).toArray⟩) ∧ w' = w := Any.strings_trimLeftByte Tryd.lays231 s c w
def Tryd.lays161_ren : Go.Shelf.Ren := ⟨fun | 161 => 59 | 231 => 73 | 227 => 74 | 233 => 75 | 235 => 76 | 228 => 82 | 197 => 83 | 151 => 84 | 260 => 90 | 152 => 91 | 137 => 93 | 119 => 94 | 224 => 95 | 225 => 96 | 217 => 98 | 266 => 99 | n => n, fun | 9 => 9 | 4 => 4 | 3 => 3 | 5 => 5 | 117 => 100 | 116 => 99 | 0 => 0 | 124 => 103 | 105 => 106 | 21 => 21 | 119 => 119 | 46 => 120 | 139 => 123 | 138 => 122 | n => n, fun | 3 => 0 | 4 => 1 | n => n⟩
theorem Tryd.lays161 : Go.Proofs.Lays.n161 Tryd.prog Tryd.lays161_ren := {
  mixed := by kernel_rfl
  f119 := Tryd.func94.trans (congrArg some (by kernel_rfl))
  f137 := Tryd.func93.trans (congrArg some (by kernel_rfl))
  f151 := Tryd.func84.trans (congrArg some (by kernel_rfl))
  f152 := Tryd.func91.trans (congrArg some (by kernel_rfl))
  f161 := Tryd.func59.trans (congrArg some (by kernel_rfl))
  f197 := Tryd.func83.trans (congrArg some (by kernel_rfl))
  f217 := Tryd.func98.trans (congrArg some (by kernel_rfl))
  f224 := Tryd.func95.trans (congrArg some (by kernel_rfl))
  f225 := Tryd.func96.trans (congrArg some (by kernel_rfl))
  f227 := Tryd.func74.trans (congrArg some (by kernel_rfl))
  f228 := Tryd.func82.trans (congrArg some (by kernel_rfl))
  f231 := Tryd.func73.trans (congrArg some (by kernel_rfl))
  f233 := Tryd.func75.trans (congrArg some (by kernel_rfl))
  f235 := Tryd.func76.trans (congrArg some (by kernel_rfl))
  f260 := Tryd.func90.trans (congrArg some (by kernel_rfl))
  f266 := Tryd.func99.trans (congrArg some (by kernel_rfl))
  t0 := Tryd.underlying0
  a0 := Tryd.isAgg0
  z0 := Tryd.sizeOf0
  v0 := Tryd.zeroValue0
  t3 := Tryd.underlying3
  a3 := Tryd.isAgg3
  z3 := Tryd.sizeOf3
  v3 := Tryd.zeroValue3
  t4 := Tryd.underlying4
  a4 := Tryd.isAgg4
  z4 := Tryd.sizeOf4
  v4 := Tryd.zeroValue4
  t5 := Tryd.underlying5
  a5 := Tryd.isAgg5
  z5 := Tryd.sizeOf5
  v5 := Tryd.zeroValue5
  t9 := Tryd.underlying9
  a9 := Tryd.isAgg9
  z9 := Tryd.sizeOf9
  v9 := Tryd.zeroValue9
  t21 := Tryd.underlying21
  a21 := Tryd.isAgg21
  z21 := Tryd.sizeOf21
  v21 := Tryd.zeroValue21
  t46 := Tryd.underlying120
  a46 := Tryd.isAgg120
  z46 := Tryd.sizeOf120
  v46 := Tryd.zeroValue120
  t105 := Tryd.underlying106
  a105 := Tryd.isAgg106
  z105 := Tryd.sizeOf106
  v105 := Tryd.zeroValue106
  t116 := Tryd.underlying99
  a116 := Tryd.isAgg99
  z116 := Tryd.sizeOf99
  t117 := Tryd.underlying100
  a117 := Tryd.isAgg100
  z117 := Tryd.sizeOf100
  v117 := Tryd.zeroValue100
  t119 := Tryd.underlying119
  a119 := Tryd.isAgg119
  z119 := Tryd.sizeOf119
  t124 := Tryd.underlying103
  a124 := Tryd.isAgg103
  z124 := Tryd.sizeOf103
  v124 := Tryd.zeroValue103
  t138 := Tryd.underlying122
  a138 := Tryd.isAgg122
  z138 := Tryd.sizeOf122
  v138 := Tryd.zeroValue122
  t139 := Tryd.underlying123
  a139 := Tryd.isAgg123
  z139 := Tryd.sizeOf123
  v139 := Tryd.zeroValue123
  g3 := by kernel_rfl
  g4 := by kernel_rfl }
open Go.RowKit in
theorem Tryd.strings_TrimLeft_one (s : ByteArray) (c : UInt8) (hc : c.toNat < 128) (w : World) :
    Calls Tryd.prog 59 #[.string s, .string ⟨#[c]⟩] w fun e w' => e = .returned (.string ⟨(Lib.trimLeftB s.data.toList c).toArray⟩) ∧ w' = w := Any.strings_TrimLeft_one Tryd.lays161 s c hc w
def Tryd.lays119_ren : Go.Shelf.Ren := ⟨fun | 119 => 94 | n => n, fun | 21 => 21 | 4 => 4 | n => n, fun | n => n⟩
theorem Tryd.lays119 : Go.Proofs.Lays.n119 Tryd.prog Tryd.lays119_ren := {
  mixed := by kernel_rfl
  f119 := Tryd.func94.trans (congrArg some (by kernel_rfl))
  t4 := Tryd.underlying4
  a4 := Tryd.isAgg4
  z4 := Tryd.sizeOf4
  v4 := Tryd.zeroValue4
  t21 := Tryd.underlying21
  a21 := Tryd.isAgg21
  z21 := Tryd.sizeOf21
  v21 := Tryd.zeroValue21 }
theorem Tryd.utf8_ValidRune (r : Int) (w : World) :
    Calls Tryd.prog 94 #[.int .i32 r] w fun e w' => e = .returned (.bool (Lib.validRune r)) ∧ w' = w := Any.utf8_ValidRune Tryd.lays119 r w
def Tryd.lays137_ren : Go.Shelf.Ren := ⟨fun | 137 => 93 | 217 => 98 | 266 => 99 | n => n, fun | 9 => 9 | 5 => 5 | 3 => 3 | n => n, fun | n => n⟩
theorem Tryd.lays137 : Go.Proofs.Lays.n137 Tryd.prog Tryd.lays137_ren := {
  mixed := by kernel_rfl
  f137 := Tryd.func93.trans (congrArg some (by kernel_rfl))
  f217 := Tryd.func98.trans (congrArg some (by kernel_rfl))
  f266 := Tryd.func99.trans (congrArg some (by kernel_rfl))
  t3 := Tryd.underlying3
  a3 := Tryd.isAgg3
  z3 := Tryd.sizeOf3
  v3 := Tryd.zeroValue3
  t5 := Tryd.underlying5
  a5 := Tryd.isAgg5
  z5 := Tryd.sizeOf5
  v5 := Tryd.zeroValue5
  t9 := Tryd.underlying9
  a9 := Tryd.isAgg9
  z9 := Tryd.sizeOf9
  v9 := Tryd.zeroValue9 }
open Go.RowKit in
theorem Tryd.strings_IndexByte (s : ByteArray) (c : Int) (w : World) :
    Calls Tryd.prog 93 #[.string s, .int .u8 c] w fun e w' => e = .returned (.int .i64 (Lib.indexByte s.data.toList c.toNat.toUInt8)) ∧ w' = w := Any.strings_IndexByte Tryd.lays137 s c w
open Go.RowKit in
theorem Tryd.Builder_String_f (B b : Nat) (l : List UInt8) (w : World) (h : Lib.IsBuilderF 111 5 B b (Lib.byteCells l) w) (h0 : l ≠ []) :
    Calls Tryd.prog 85 #[.pointer (some ⟨b, 0, none⟩)] w fun e w' => e = .returned (.string ⟨l.toArray⟩) ∧ (Lib.IsBuilderF 111 5 B b (Lib.byteCells l) w' ∧ Below B w w') := Any.Builder_String_f Tryd.lays169 Tryd.Builder_Extra_169 B b l w h h0
open Go.RowKit in
theorem Tryd.Builder_String_empty_f (B b : Nat) (w : World) (h : Lib.IsBuilderF 111 5 B b [] w) (hBw : B ≤ w.heap.size) :
    Calls Tryd.prog 85 #[.pointer (some ⟨b, 0, none⟩)] w fun e w' => e = .returned (.string ⟨#[]⟩) ∧ (Lib.IsBuilderF 111 5 B b [] w' ∧ Below B w w') := Any.Builder_String_empty_f Tryd.lays169 Tryd.Builder_Extra_169 B b w h hBw
open Go.RowKit in
theorem Tryd.Builder_String_any_f (B b : Nat) (l : List UInt8) (w : World) (h : Lib.IsBuilderF 111 5 B b (Lib.byteCells l) w) (hBw : B ≤ w.heap.size) :
    Calls Tryd.prog 85 #[.pointer (some ⟨b, 0, none⟩)] w fun e w' => e = .returned (.string ⟨l.toArray⟩) ∧ (Lib.IsBuilderF 111 5 B b (Lib.byteCells l) w' ∧ Below B w w') := Any.Builder_String_any_f Tryd.lays169 Tryd.Builder_Extra_169 B b l w h hBw
open Go.RowKit in
theorem Tryd.Builder_String_k (B b : Nat) (l : List UInt8) (w : World) (h : Lib.IsBuilderF 111 5 B b (Lib.byteCells l) w) (h0 : l ≠ []) :
    Calls Tryd.prog 85 #[.pointer (some ⟨b, 0, none⟩)] w fun e w' => e = .returned (.string ⟨l.toArray⟩) ∧ (Lib.IsBuilderF 111 5 B b (Lib.byteCells l) w' ∧ Below B w w' ∧ Lib.OthersKept 5 (some b) w w') := Any.Builder_String_k Tryd.lays169 Tryd.Builder_Extra_169 B b l w h h0
open Go.RowKit in
theorem Tryd.Builder_String_empty_k (B b : Nat) (w : World) (h : Lib.IsBuilderF 111 5 B b [] w) (hBw : B ≤ w.heap.size) :
    Calls Tryd.prog 85 #[.pointer (some ⟨b, 0, none⟩)] w fun e w' => e = .returned (.string ⟨#[]⟩) ∧ (Lib.IsBuilderF 111 5 B b [] w' ∧ Below B w w' ∧ Lib.OthersKept 5 (some b) w w') := Any.Builder_String_empty_k Tryd.lays169 Tryd.Builder_Extra_169 B b w h hBw
open Go.RowKit in
theorem Tryd.Builder_String_any_k (B b : Nat) (l : List UInt8) (w : World) (h : Lib.IsBuilderF 111 5 B b (Lib.byteCells l) w) (hBw : B ≤ w.heap.size) :
    Calls Tryd.prog 85 #[.pointer (some ⟨b, 0, none⟩)] w fun e w' => e = .returned (.string ⟨l.toArray⟩) ∧ (Lib.IsBuilderF 111 5 B b (Lib.byteCells l) w' ∧ Below B w w' ∧ Lib.OthersKept 5 (some b) w w') := Any.Builder_String_any_k Tryd.lays169 Tryd.Builder_Extra_169 B b l w h hBw
def Tryd.lays217_ren : Go.Shelf.Ren := ⟨fun | 217 => 98 | 266 => 99 | n => n, fun | 9 => 9 | 5 => 5 | 3 => 3 | n => n, fun | n => n⟩
theorem Tryd.lays217 : Go.Proofs.Lays.n217 Tryd.prog Tryd.lays217_ren := {
  mixed := by kernel_rfl
  f217 := Tryd.func98.trans (congrArg some (by kernel_rfl))
  f266 := Tryd.func99.trans (congrArg some (by kernel_rfl))
  t3 := Tryd.underlying3
  a3 := Tryd.isAgg3
  z3 := Tryd.sizeOf3
  v3 := Tryd.zeroValue3
  t5 := Tryd.underlying5
  a5 := Tryd.isAgg5
  z5 := Tryd.sizeOf5
  v5 := Tryd.zeroValue5
  t9 := Tryd.underlying9
  a9 := Tryd.isAgg9
  z9 := Tryd.sizeOf9
  v9 := Tryd.zeroValue9 }
open Go.RowKit Go.Lib in
theorem Tryd.stringslite_IndexByte (s : ByteArray) (c : Int) (w : World) :
    Calls Tryd.prog 98 #[.string s, .int .u8 c] w fun e w' => e = .returned (.int .i64 (Lib.indexByte s.data.toList c.toNat.toUInt8)) ∧ w' = w := Any.stringslite_IndexByte Tryd.lays217 s c w
def Tryd.lays224_ren : Go.Shelf.Ren := ⟨fun | 224 => 95 | n => n, fun | 3 => 3 | n => n, fun | n => n⟩
theorem Tryd.lays224 : Go.Proofs.Lays.n224 Tryd.prog Tryd.lays224_ren := {
  mixed := by kernel_rfl
  f224 := Tryd.func95.trans (congrArg some (by kernel_rfl))
  t3 := Tryd.underlying3
  a3 := Tryd.isAgg3
  z3 := Tryd.sizeOf3
  v3 := Tryd.zeroValue3 }
open Go.RowKit Go.Lib in
theorem Tryd.bytealg_Cutover (n : Int) (h0 : 0 ≤ n) (h1 : n < 4611686018427387904) (w : World) :
    Calls Tryd.prog 95 #[.int .i64 n] w fun e w' => e = .returned (.int .i64 ((n + 16) / 8)) ∧ w' = w := Any.bytealg_Cutover Tryd.lays224 n h0 h1 w
def Tryd.lays206_ren : Go.Shelf.Ren := ⟨fun | 206 => 78 | n => n, fun | 9 => 9 | 4 => 4 | 3 => 3 | n => n, fun | n => n⟩
theorem Tryd.lays206 : Go.Proofs.Lays.n206 Tryd.prog Tryd.lays206_ren := {
  mixed := by kernel_rfl
  f206 := Tryd.func78.trans (congrArg some (by kernel_rfl))
  t3 := Tryd.underlying3
  a3 := Tryd.isAgg3
  z3 := Tryd.sizeOf3
  v3 := Tryd.zeroValue3
  t4 := Tryd.underlying4
  a4 := Tryd.isAgg4
  z4 := Tryd.sizeOf4
  v4 := Tryd.zeroValue4
  t9 := Tryd.underlying9
  a9 := Tryd.isAgg9
  z9 := Tryd.sizeOf9
  v9 := Tryd.zeroValue9 }
open Go.RowKit Go.Lib in
theorem Tryd.stringslite_HasPrefix (s p : ByteArray) (w : World) :
    Calls Tryd.prog 78 #[.string s, .string p] w fun e w' => e = .returned (.bool (Lib.hasPrefix s.data.toList p.data.toList)) ∧ w' = w := Any.stringslite_HasPrefix Tryd.lays206 s p w
def Tryd.lays99_ren : Go.Shelf.Ren := ⟨fun | 99 => 66 | 206 => 78 | n => n, fun | 9 => 9 | 4 => 4 | 3 => 3 | n => n, fun | n => n⟩
theorem Tryd.lays99 : Go.Proofs.Lays.n99 Tryd.prog Tryd.lays99_ren := {
  mixed := by kernel_rfl
  f99 := Tryd.func66.trans (congrArg some (by kernel_rfl))
  f206 := Tryd.func78.trans (congrArg some (by kernel_rfl))
  t3 := Tryd.underlying3
  a3 := Tryd.isAgg3
  z3 := Tryd.sizeOf3
  v3 := Tryd.zeroValue3
  t4 := Tryd.underlying4
  a4 := Tryd.isAgg4
  z4 := Tryd.sizeOf4
  v4 := Tryd.zeroValue4
  t9 := Tryd.underlying9
  a9 := Tryd.isAgg9
  z9 := Tryd.sizeOf9
  v9 := Tryd.zeroValue9 }
open Go.RowKit Go.Lib in
theorem Tryd.strings_HasPrefix (s p : ByteArray) (w : World) :
    Calls Tryd.prog 66 #[.string s, .string p] w fun e w' => e = .returned (.bool (Lib.hasPrefix s.data.toList p.data.toList)) ∧ w' = w := Any.strings_HasPrefix Tryd.lays99 s p w
def Tryd.lays197_ren : Go.Shelf.Ren := ⟨fun | 197 => 83 | 260 => 90 | n => n, fun | 9 => 9 | 21 => 21 | 3 => 3 | 4 => 4 | 5 => 5 | 105 => 106 | 119 => 119 | 0 => 0 | 46 => 120 | 139 => 123 | 138 => 122 | n => n, fun | 3 => 0 | 4 => 1 | n => n⟩
theorem Tryd.lays197 : Go.Proofs.Lays.n197 Tryd.prog Tryd.lays197_ren := {
  mixed := by kernel_rfl
  f197 := Tryd.func83.trans (congrArg some (by kernel_rfl))
  f260 := Tryd.func90.trans (congrArg some (by kernel_rfl))
  t0 := Tryd.underlying0
  a0 := Tryd.isAgg0
  z0 := Tryd.sizeOf0
  v0 := Tryd.zeroValue0
  t3 := Tryd.underlying3
  a3 := Tryd.isAgg3
  z3 := Tryd.sizeOf3
  v3 := Tryd.zeroValue3
  t4 := Tryd.underlying4
  a4 := Tryd.isAgg4
  z4 := Tryd.sizeOf4
  v4 := Tryd.zeroValue4
  t5 := Tryd.underlying5
  a5 := Tryd.isAgg5
  z5 := Tryd.sizeOf5
  v5 := Tryd.zeroValue5
  t9 := Tryd.underlying9
  a9 := Tryd.isAgg9
  z9 := Tryd.sizeOf9
  v9 := Tryd.zeroValue9
  t21 := Tryd.underlying21
  a21 := Tryd.isAgg21
  z21 := Tryd.sizeOf21
  v21 := Tryd.zeroValue21
  t46 := Tryd.underlying120
  a46 := Tryd.isAgg120
  z46 := Tryd.sizeOf120
  v46 := Tryd.zeroValue120
  t105 := Tryd.underlying106
  a105 := Tryd.isAgg106
  z105 := Tryd.sizeOf106
  v105 := Tryd.zeroValue106
  t119 := Tryd.underlying119
  a119 := Tryd.isAgg119
  z119 := Tryd.sizeOf119
  t138 := Tryd.underlying122
  a138 := Tryd.isAgg122
  z138 := Tryd.sizeOf122
  v138 := Tryd.zeroValue122
  t139 := Tryd.underlying123
  a139 := Tryd.isAgg123
  z139 := Tryd.sizeOf123
  v139 := Tryd.zeroValue123
  g3 := by kernel_rfl
  g4 := by kernel_rfl }
open Go.RowKit Go.Lib in
theorem Tryd.utf8_DecodeRuneInString_ascii (s : ByteArray) (x : UInt8) (w : World) (h0 : s.data.toList[0]? = some x) (hx : x.toNat < 128) :
    Calls Tryd.prog 83 #[.string s] w fun e w' => e = .returned (.tuple #[.int .i32 x.toNat, .int .i64 1]) ∧ w' = w := Any.utf8_DecodeRuneInString_ascii Tryd.lays197 s x w h0 hx
def Tryd.lays152_ren : Go.Shelf.Ren := ⟨fun | 152 => 91 | 137 => 93 | 119 => 94 | 224 => 95 | 225 => 96 | 217 => 98 | 266 => 99 | n => n, fun | 9 => 9 | 21 => 21 | 3 => 3 | 4 => 4 | 5 => 5 | 0 => 0 | 46 => 120 | n => n, fun | n => n⟩
theorem Tryd.lays152 : Go.Proofs.Lays.n152 Tryd.prog Tryd.lays152_ren := {
  mixed := by kernel_rfl
  f119 := Tryd.func94.trans (congrArg some (by kernel_rfl))
  f137 := Tryd.func93.trans (congrArg some (by kernel_rfl))
  f152 := Tryd.func91.trans (congrArg some (by kernel_rfl))
  f217 := Tryd.func98.trans (congrArg some (by kernel_rfl))
  f224 := Tryd.func95.trans (congrArg some (by kernel_rfl))
  f225 := Tryd.func96.trans (congrArg some (by kernel_rfl))
  f266 := Tryd.func99.trans (congrArg some (by kernel_rfl))
  t0 := Tryd.underlying0
  a0 := Tryd.isAgg0
  z0 := Tryd.sizeOf0
  v0 := Tryd.zeroValue0
  t3 := Tryd.underlying3
  a3 := Tryd.isAgg3
  z3 := Tryd.sizeOf3
  v3 := Tryd.zeroValue3
  t4 := Tryd.underlying4
  a4 := Tryd.isAgg4
  z4 := Tryd.sizeOf4
  v4 := Tryd.zeroValue4
  t5 := Tryd.underlying5
  a5 := Tryd.isAgg5
  z5 := Tryd.sizeOf5
  v5 := Tryd.zeroValue5
  t9 := Tryd.underlying9
  a9 := Tryd.isAgg9
  z9 := Tryd.sizeOf9
  v9 := Tryd.zeroValue9
  t21 := Tryd.underlying21
  a21 := Tryd.isAgg21
  z21 := Tryd.sizeOf21
  v21 := Tryd.zeroValue21
  t46 := Tryd.underlying120
  a46 := Tryd.isAgg120
  z46 := Tryd.sizeOf120
  v46 := Tryd.zeroValue120 }
open Go.RowKit Go.Lib in
theorem Tryd.strings_IndexRune_ascii (s : ByteArray) (r : Int) (w : World) (h0 : 0 ≤ r) (h1 : r < 128) :
    Calls Tryd.prog 91 #[.string s, .int .i32 r] w fun e w' => e = .returned (.int .i64 (Lib.indexByte s.data.toList r.toNat.toUInt8)) ∧ w' = w := Any.strings_IndexRune_ascii Tryd.lays152 s r w h0 h1
def Tryd.lays151_ren : Go.Shelf.Ren := ⟨fun | 151 => 84 | 152 => 91 | 137 => 93 | 119 => 94 | 224 => 95 | 225 => 96 | 217 => 98 | 266 => 99 | n => n, fun | 9 => 9 | 21 => 21 | 4 => 4 | 3 => 3 | 5 => 5 | 0 => 0 | 46 => 120 | n => n, fun | n => n⟩
theorem Tryd.lays151 : Go.Proofs.Lays.n151 Tryd.prog Tryd.lays151_ren := {
  mixed := by kernel_rfl
  f119 := Tryd.func94.trans (congrArg some (by kernel_rfl))
  f137 := Tryd.func93.trans (congrArg some (by kernel_rfl))
  f151 := Tryd.func84.trans (congrArg some (by kernel_rfl))
  f152 := Tryd.func91.trans (congrArg some (by kernel_rfl))
  f217 := Tryd.func98.trans (congrArg some (by kernel_rfl))
  f224 := Tryd.func95.trans (congrArg some (by kernel_rfl))
  f225 := Tryd.func96.trans (congrArg some (by kernel_rfl))
  f266 := Tryd.func99.trans (congrArg some (by kernel_rfl))
  t0 := Tryd.underlying0
  a0 := Tryd.isAgg0
  z0 := Tryd.sizeOf0
  v0 := Tryd.zeroValue0
  t3 := Tryd.underlying3
  a3 := Tryd.isAgg3
  z3 := Tryd.sizeOf3
  v3 := Tryd.zeroValue3
  t4 := Tryd.underlying4
  a4 := Tryd.isAgg4
  z4 := Tryd.sizeOf4
  v4 := Tryd.zeroValue4
  t5 := Tryd.underlying5
  a5 := Tryd.isAgg5
  z5 := Tryd.sizeOf5
  v5 := Tryd.zeroValue5
  t9 := Tryd.underlying9
  a9 := Tryd.isAgg9
  z9 := Tryd.sizeOf9
  v9 := Tryd.zeroValue9
  t21 := Tryd.underlying21
  a21 := Tryd.isAgg21
  z21 := Tryd.sizeOf21
  v21 := Tryd.zeroValue21
  t46 := Tryd.underlying120
  a46 := Tryd.isAgg120
  z46 := Tryd.sizeOf120
  v46 := Tryd.zeroValue120 }
open Go.RowKit Go.Lib in
theorem Tryd.strings_ContainsRune_ascii (s : ByteArray) (r : Int) (w : World) (h0 : 0 ≤ r) (h1 : r < 128) :
    Calls Tryd.prog 84 #[.string s, .int .i32 r] w fun e w' => e = .returned (.bool (decide (0 ≤ Lib.indexByte s.data.toList r.toNat.toUInt8))) ∧ w' = w := Any.strings_ContainsRune_ascii Tryd.lays151 s r w h0 h1
def Tryd.lays227_ren : Go.Shelf.Ren := ⟨fun | 227 => 74 | n => n, fun | 9 => 9 | 116 => 99 | 4 => 4 | 0 => 0 | 3 => 3 | 5 => 5 | n => n, fun | n => n⟩
theorem Tryd.lays227 : Go.Proofs.Lays.n227 Tryd.prog Tryd.lays227_ren := {
  mixed := by kernel_rfl
  f227 := Tryd.func74.trans (congrArg some (by kernel_rfl))
  t0 := Tryd.underlying0
  a0 := Tryd.isAgg0
  z0 := Tryd.sizeOf0
  v0 := Tryd.zeroValue0
  t3 := Tryd.underlying3
  a3 := Tryd.isAgg3
  z3 := Tryd.sizeOf3
  v3 := Tryd.zeroValue3
  t4 := Tryd.underlying4
  a4 := Tryd.isAgg4
  z4 := Tryd.sizeOf4
  v4 := Tryd.zeroValue4
  t5 := Tryd.underlying5
  a5 := Tryd.isAgg5
  z5 := Tryd.sizeOf5
  v5 := Tryd.zeroValue5
  t9 := Tryd.underlying9
  a9 := Tryd.isAgg9
  z9 := Tryd.sizeOf9
  v9 := Tryd.zeroValue9
  t116 := Tryd.underlying99
  a116 := Tryd.isAgg99
  z116 := Tryd.sizeOf99 }
open Go.RowKit Go.Lib in
theorem Tryd.strings_makeASCIISet (hv116 : ∀ w, (zeroValue 99).run Tryd.prog w = .ok (.agg (Array.replicate 256 (.bool false))) w) (chars : ByteArray) (w : World) (hs : chars.size < 4294967281) (hascii : ∀ (j : Nat) b, chars.data.toList[j]? = some b → b.toNat < 128) :
    Calls Tryd.prog 74 #[.string chars] w fun e w' => e = .returned (.tuple #[.agg (Lib.setCells chars.data.toList), .bool true]) ∧ w' = w.alloc (.cells (Lib.setCells chars.data.toList) 99) := Any.strings_makeASCIISet Tryd.lays227 hv116 (by kernel_rfl) chars w hs hascii
def Tryd.lays228_ren : Go.Shelf.Ren := ⟨fun | 228 => 82 | n => n, fun | 124 => 103 | 5 => 5 | 4 => 4 | 0 => 0 | 116 => 99 | n => n, fun | n => n⟩
theorem Tryd.lays228 : Go.Proofs.Lays.n228 Tryd.prog Tryd.lays228_ren := {
  mixed := by kernel_rfl
  f228 := Tryd.func82.trans (congrArg some (by kernel_rfl))
  t0 := Tryd.underlying0
  a0 := Tryd.isAgg0
  z0 := Tryd.sizeOf0
  v0 := Tryd.zeroValue0
  t4 := Tryd.underlying4
  a4 := Tryd.isAgg4
  z4 := Tryd.sizeOf4
  v4 := Tryd.zeroValue4
  t5 := Tryd.underlying5
  a5 := Tryd.isAgg5
  z5 := Tryd.sizeOf5
  v5 := Tryd.zeroValue5
  t116 := Tryd.underlying99
  a116 := Tryd.isAgg99
  z116 := Tryd.sizeOf99
  t124 := Tryd.underlying103
  a124 := Tryd.isAgg103
  z124 := Tryd.sizeOf103
  v124 := Tryd.zeroValue103 }
open Go.RowKit Go.Lib in
theorem Tryd.asciiSet_contains (b : Nat) (x : UInt8) (v : Bool) (w : World) (hc : w.cell? ⟨b, x.toNat, none⟩ = some (.bool v)) :
    Calls Tryd.prog 82 #[.pointer (some ⟨b, 0, none⟩), .int .u8 x.toNat] w fun e w' => e = .returned (.bool v) ∧ w' = w := Any.asciiSet_contains Tryd.lays228 b x v w hc
def Tryd.lays260_ren : Go.Shelf.Ren := ⟨fun | 260 => 90 | n => n, fun | 9 => 9 | 21 => 21 | 3 => 3 | 4 => 4 | 5 => 5 | 119 => 119 | 0 => 0 | 46 => 120 | 139 => 123 | 138 => 122 | n => n, fun | 3 => 0 | 4 => 1 | n => n⟩
theorem Tryd.lays260 : Go.Proofs.Lays.n260 Tryd.prog Tryd.lays260_ren := {
  mixed := by kernel_rfl
  f260 := Tryd.func90.trans (congrArg some (by kernel_rfl))
  t0 := Tryd.underlying0
  a0 := Tryd.isAgg0
  z0 := Tryd.sizeOf0
  v0 := Tryd.zeroValue0
  t3 := Tryd.underlying3
  a3 := Tryd.isAgg3
  z3 := Tryd.sizeOf3
  v3 := Tryd.zeroValue3
  t4 := Tryd.underlying4
  a4 := Tryd.isAgg4
  z4 := Tryd.sizeOf4
  v4 := Tryd.zeroValue4
  t5 := Tryd.underlying5
  a5 := Tryd.isAgg5
  z5 := Tryd.sizeOf5
  v5 := Tryd.zeroValue5
  t9 := Tryd.underlying9
  a9 := Tryd.isAgg9
  z9 := Tryd.sizeOf9
  v9 := Tryd.zeroValue9
  t21 := Tryd.underlying21
  a21 := Tryd.isAgg21
  z21 := Tryd.sizeOf21
  v21 := Tryd.zeroValue21
  t46 := Tryd.underlying120
  a46 := Tryd.isAgg120
  z46 := Tryd.sizeOf120
  v46 := Tryd.zeroValue120
  t119 := Tryd.underlying119
  a119 := Tryd.isAgg119
  z119 := Tryd.sizeOf119
  t138 := Tryd.underlying122
  a138 := Tryd.isAgg122
  z138 := Tryd.sizeOf122
  v138 := Tryd.zeroValue122
  t139 := Tryd.underlying123
  a139 := Tryd.isAgg123
  z139 := Tryd.sizeOf123
  v139 := Tryd.zeroValue123
  g3 := by kernel_rfl
  g4 := by kernel_rfl }
open Go.RowKit Go.Lib in
theorem Tryd.utf8_decodeRuneInStringSlow (s : ByteArray) (w : World) (hT : Lib.Utf8Tabs 0 1 w) :
    Calls Tryd.prog 90 #[.string s] w fun e w' => e = .returned (.tuple #[.int .i32 (Lib.decodeGo s).1, .int .i64 (Lib.decodeGo s).2]) ∧ Below w.heap.size w w' := Any.utf8_decodeRuneInStringSlow Tryd.lays260 s w hT
open Go.RowKit Go.Lib in
theorem Tryd.utf8_DecodeRuneInString (s : ByteArray) (w : World) (hT : Lib.Utf8Tabs 0 1 w) :
    Calls Tryd.prog 83 #[.string s] w fun e w' => e = .returned (.tuple #[.int .i32 (Lib.decodeGo s).1, .int .i64 (Lib.decodeGo s).2]) ∧ Below w.heap.size w w' := Any.utf8_DecodeRuneInString Tryd.lays197 s w hT
end Go.Proofs
namespace Go.Proofs.YthlakehilhpojaaDoor
open Go.RowKit
def fm_number : Fm := (.call (.c true) false 55 [(.one (.pt 0)), (.one (.c (.fn 35)))] (.p (.one (.i .i64 (.x 4)))) ⟨1, 0, 0, 0, 0, 0⟩
  (.load (.c true) (.pt 0 0) 1 [(.s (.x 1))] ⟨0, 0, 1, 0, 0, 0⟩
  (.load (.c true) (.pt 0 1) 1 [(.i .i64 (.x 5))] ⟨1, 0, 0, 0, 0, 0⟩
  (.load (.c true) (.pt 0 1) 1 [(.i .i64 (.x 6))] ⟨1, 0, 0, 0, 0, 0⟩
  (.need (.c true) (.nnp 0)
  (.need (.c true) (.nnp 0)
  (.need (.c true) (.nnp 0)
  (.need (.c true) (.nnp 0)
  (.need (.c true) (.nnp 0)
  (.need (.c true) (.nnp 0)
  (.need (.c true) (.and (.le (.c (-9223372036854775808)) (.add (.x 6) (.x 4))) (.le (.add (.x 6) (.x 4)) (.c 9223372036854775807)))
  (.need (.c true) (.and (.and (.le (.c 0) (.add (.x 6) (.x 4))) (.le (.add (.x 6) (.x 4)) (.len (.x 1)))) (.and (.le (.c 0) (.x 5)) (.le (.x 5) (.add (.x 6) (.x 4)))))
  (.load (.c true) (.pt 0 1) 1 [(.i .i64 (.x 7))] ⟨1, 0, 0, 0, 0, 0⟩
  (.load (.c true) (.pt 0 0) 1 [(.s (.x 2))] ⟨0, 0, 1, 0, 0, 0⟩
  (.load (.lt (.add (.x 7) (.x 4)) (.len (.x 2))) (.pt 0 0) 1 [(.s (.x 3))] ⟨0, 0, 1, 0, 0, 0⟩
  (.load (.lt (.add (.x 7) (.x 4)) (.len (.x 2))) (.pt 0 1) 1 [(.i .i64 (.x 8))] ⟨1, 0, 0, 0, 0, 0⟩
  (.need (.c true) (.nnp 0)
  (.need (.c true) (.nnp 0)
  (.need (.c true) (.and (.le (.c (-9223372036854775808)) (.add (.x 7) (.x 4))) (.le (.add (.x 7) (.x 4)) (.c 9223372036854775807)))
  (.need (.c true) (.nnp 0)
  (.need (.c true) (.nnp 0)
  (.need (.lt (.add (.x 7) (.x 4)) (.len (.x 2))) (.nnp 0)
  (.need (.lt (.add (.x 7) (.x 4)) (.len (.x 2))) (.nnp 0)
  (.need (.lt (.add (.x 7) (.x 4)) (.len (.x 2))) (.nnp 0)
  (.need (.lt (.add (.x 7) (.x 4)) (.len (.x 2))) (.nnp 0)
  (.need (.lt (.add (.x 7) (.x 4)) (.len (.x 2))) (.and (.le (.c (-9223372036854775808)) (.add (.x 8) (.x 4))) (.le (.add (.x 8) (.x 4)) (.c 9223372036854775807)))
  (.need (.lt (.add (.x 7) (.x 4)) (.len (.x 2))) (.and (.le (.c 0) (.add (.x 8) (.x 4))) (.lt (.add (.x 8) (.x 4)) (.len (.x 3))))
  (.ite (.and (.lt (.add (.x 7) (.x 4)) (.len (.x 2))) (.eqI (.at (.x 3) (.add (.x 8) (.x 4))) (.c 105)))
  (.need (.c true) (.and (.le (.c (-9223372036854775808)) (.add (.x 4) (.c 1))) (.le (.add (.x 4) (.c 1)) (.c 9223372036854775807)))
  (.load (.c true) (.pt 0 1) 1 [(.i .i64 (.x 9))] ⟨1, 0, 0, 0, 0, 0⟩
  (.load (.c true) (.pt 0 0) 1 [(.s (.x 4))] ⟨0, 0, 1, 0, 0, 0⟩
  (.load (.lt (.add (.x 9) (.add (.x 4) (.c 1))) (.len (.x 4))) (.pt 0 0) 1 [(.s (.x 5))] ⟨0, 0, 1, 0, 0, 0⟩
  (.load (.lt (.add (.x 9) (.add (.x 4) (.c 1))) (.len (.x 4))) (.pt 0 1) 1 [(.i .i64 (.x 10))] ⟨1, 0, 0, 0, 0, 0⟩
  (.need (.c true) (.nnp 0)
  (.need (.c true) (.nnp 0)
  (.need (.c true) (.and (.le (.c (-9223372036854775808)) (.add (.x 9) (.add (.x 4) (.c 1)))) (.le (.add (.x 9) (.add (.x 4) (.c 1))) (.c 9223372036854775807)))
  (.need (.c true) (.nnp 0)
  (.need (.c true) (.nnp 0)
  (.need (.lt (.add (.x 9) (.add (.x 4) (.c 1))) (.len (.x 4))) (.nnp 0)
  (.need (.lt (.add (.x 9) (.add (.x 4) (.c 1))) (.len (.x 4))) (.nnp 0)
  (.need (.lt (.add (.x 9) (.add (.x 4) (.c 1))) (.len (.x 4))) (.nnp 0)
  (.need (.lt (.add (.x 9) (.add (.x 4) (.c 1))) (.len (.x 4))) (.nnp 0)
  (.need (.lt (.add (.x 9) (.add (.x 4) (.c 1))) (.len (.x 4))) (.and (.le (.c (-9223372036854775808)) (.add (.x 10) (.add (.x 4) (.c 1)))) (.le (.add (.x 10) (.add (.x 4) (.c 1))) (.c 9223372036854775807)))
  (.need (.lt (.add (.x 9) (.add (.x 4) (.c 1))) (.len (.x 4))) (.and (.le (.c 0) (.add (.x 10) (.add (.x 4) (.c 1)))) (.lt (.add (.x 10) (.add (.x 4) (.c 1))) (.len (.x 5))))
  (.call (.lt (.add (.x 9) (.add (.x 4) (.c 1))) (.len (.x 4))) false 57 [(.one (.i .u8 (.at (.x 5) (.add (.x 10) (.add (.x 4) (.c 1))))))] (.p (.one (.b (.x 0)))) ⟨0, 1, 0, 0, 0, 0⟩
  (.ite (.and (.lt (.add (.x 9) (.add (.x 4) (.c 1))) (.len (.x 4))) (.x 0))
  (.ret (.tup [(.agg [(.i .u8 (.c 0)), (.i .i64 (.c 0)), (.i .i64 (.c 0)), (.i .i64 (.c 0)), (.s (.c []))]), (.one (.i .i64 (.c 4)))]))
  (.call (.c true) false 59 [(.one (.s (.sub (.x 1) (.x 5) (.add (.x 6) (.x 4))))), (.one (.s (.c [48])))] (.p (.one (.s (.x 6)))) ⟨0, 0, 1, 0, 0, 0⟩
  (.ite (.eqS (.x 6) (.c []))
  (.call (.c true) false 60 [(.one (.s (.c [48])))] (.tup [(.one (.i .i64 (.x 11))), (.one (.i .i64 (.x 12)))]) ⟨2, 0, 0, 0, 0, 0⟩
  (.ite (.or (.not (.eqI (.x 12) (.c 0))) (.lt (.c 8388607) (.x 11)))
  (.ret (.tup [(.agg [(.i .u8 (.c 0)), (.i .i64 (.c 0)), (.i .i64 (.c 0)), (.i .i64 (.c 0)), (.s (.c []))]), (.one (.i .i64 (.c 14)))]))
  (.call (.c true) false 54 [(.one (.pt 0)), (.one (.i .i64 (.add (.x 4) (.c 1))))] (.tup []) ⟨0, 0, 0, 0, 0, 0⟩
  (.ret (.tup [(.agg [(.i .u8 (.c 4)), (.i .i64 (.x 1)), (.i .i64 (.x 2)), (.i .i64 (.x 11)), (.s (.x 0))]), (.one (.i .i64 (.c 0)))])))))
  (.call (.c true) false 60 [(.one (.s (.x 6)))] (.tup [(.one (.i .i64 (.x 11))), (.one (.i .i64 (.x 12)))]) ⟨2, 0, 0, 0, 0, 0⟩
  (.ite (.or (.not (.eqI (.x 12) (.c 0))) (.lt (.c 8388607) (.x 11)))
  (.ret (.tup [(.agg [(.i .u8 (.c 0)), (.i .i64 (.c 0)), (.i .i64 (.c 0)), (.i .i64 (.c 0)), (.s (.c []))]), (.one (.i .i64 (.c 14)))]))
  (.call (.c true) false 54 [(.one (.pt 0)), (.one (.i .i64 (.add (.x 4) (.c 1))))] (.tup []) ⟨0, 0, 0, 0, 0, 0⟩
  (.ret (.tup [(.agg [(.i .u8 (.c 4)), (.i .i64 (.x 1)), (.i .i64 (.x 2)), (.i .i64 (.x 11)), (.s (.x 0))]), (.one (.i .i64 (.c 0)))])))))))))))))))))))))))))
  (.load (.c true) (.pt 0 1) 1 [(.i .i64 (.x 9))] ⟨1, 0, 0, 0, 0, 0⟩
  (.load (.c true) (.pt 0 0) 1 [(.s (.x 4))] ⟨0, 0, 1, 0, 0, 0⟩
  (.load (.lt (.add (.x 9) (.x 4)) (.len (.x 4))) (.pt 0 0) 1 [(.s (.x 5))] ⟨0, 0, 1, 0, 0, 0⟩
  (.load (.lt (.add (.x 9) (.x 4)) (.len (.x 4))) (.pt 0 1) 1 [(.i .i64 (.x 10))] ⟨1, 0, 0, 0, 0, 0⟩
  (.need (.c true) (.nnp 0)
  (.need (.c true) (.nnp 0)
  (.need (.c true) (.and (.le (.c (-9223372036854775808)) (.add (.x 9) (.x 4))) (.le (.add (.x 9) (.x 4)) (.c 9223372036854775807)))
  (.need (.c true) (.nnp 0)
  (.need (.c true) (.nnp 0)
  (.need (.lt (.add (.x 9) (.x 4)) (.len (.x 4))) (.nnp 0)
  (.need (.lt (.add (.x 9) (.x 4)) (.len (.x 4))) (.nnp 0)
  (.need (.lt (.add (.x 9) (.x 4)) (.len (.x 4))) (.nnp 0)
  (.need (.lt (.add (.x 9) (.x 4)) (.len (.x 4))) (.nnp 0)
  (.need (.lt (.add (.x 9) (.x 4)) (.len (.x 4))) (.and (.le (.c (-9223372036854775808)) (.add (.x 10) (.x 4))) (.le (.add (.x 10) (.x 4)) (.c 9223372036854775807)))
  (.need (.lt (.add (.x 9) (.x 4)) (.len (.x 4))) (.and (.le (.c 0) (.add (.x 10) (.x 4))) (.lt (.add (.x 10) (.x 4)) (.len (.x 5))))
  (.call (.lt (.add (.x 9) (.x 4)) (.len (.x 4))) false 57 [(.one (.i .u8 (.at (.x 5) (.add (.x 10) (.x 4)))))] (.p (.one (.b (.x 0)))) ⟨0, 1, 0, 0, 0, 0⟩
  (.ite (.and (.lt (.add (.x 9) (.x 4)) (.len (.x 4))) (.x 0))
  (.ret (.tup [(.agg [(.i .u8 (.c 0)), (.i .i64 (.c 0)), (.i .i64 (.c 0)), (.i .i64 (.c 0)), (.s (.c []))]), (.one (.i .i64 (.c 4)))]))
  (.call (.c true) false 59 [(.one (.s (.sub (.x 1) (.x 5) (.add (.x 6) (.x 4))))), (.one (.s (.c [48])))] (.p (.one (.s (.x 6)))) ⟨0, 0, 1, 0, 0, 0⟩
  (.ite (.eqS (.x 6) (.c []))
  (.call (.c true) false 60 [(.one (.s (.c [48])))] (.tup [(.one (.i .i64 (.x 11))), (.one (.i .i64 (.x 12)))]) ⟨2, 0, 0, 0, 0, 0⟩
  (.ite (.or (.not (.eqI (.x 12) (.c 0))) (.lt (.c 9223372036854775807) (.x 11)))
  (.ret (.tup [(.agg [(.i .u8 (.c 0)), (.i .i64 (.c 0)), (.i .i64 (.c 0)), (.i .i64 (.c 0)), (.s (.c []))]), (.one (.i .i64 (.c 14)))]))
  (.call (.c true) false 54 [(.one (.pt 0)), (.one (.i .i64 (.x 4)))] (.tup []) ⟨0, 0, 0, 0, 0, 0⟩
  (.ret (.tup [(.agg [(.i .u8 (.c 3)), (.i .i64 (.x 1)), (.i .i64 (.x 2)), (.i .i64 (.x 11)), (.s (.x 0))]), (.one (.i .i64 (.c 0)))])))))
  (.call (.c true) false 60 [(.one (.s (.x 6)))] (.tup [(.one (.i .i64 (.x 11))), (.one (.i .i64 (.x 12)))]) ⟨2, 0, 0, 0, 0, 0⟩
  (.ite (.or (.not (.eqI (.x 12) (.c 0))) (.lt (.c 9223372036854775807) (.x 11)))
  (.ret (.tup [(.agg [(.i .u8 (.c 0)), (.i .i64 (.c 0)), (.i .i64 (.c 0)), (.i .i64 (.c 0)), (.s (.c []))]), (.one (.i .i64 (.c 14)))]))
  (.call (.c true) false 54 [(.one (.pt 0)), (.one (.i .i64 (.x 4)))] (.tup []) ⟨0, 0, 0, 0, 0, 0⟩
  (.ret (.tup [(.agg [(.i .u8 (.c 3)), (.i .i64 (.x 1)), (.i .i64 (.x 2)), (.i .i64 (.x 11)), (.s (.x 0))]), (.one (.i .i64 (.c 0)))]))))))))))))))))))))))))))))))))))))))))))))))))))))
theorem gen_number : genFn ⟨true, []⟩ Tryd.prog (fun l => ([] : List LAnn).getD l ⟨[], [], []⟩) Tryd.f36 = fm_number := by kernel_rfl
theorem ps_number : freshPs Tryd.prog .zero Tryd.f36.params.toList = some ([(.one (.pt 0)), (.agg [(.i .u8 (.x 0)), (.i .i64 (.x 1)), (.i .i64 (.x 2)), (.i .i64 (.x 3)), (.s (.x 0))])], ⟨4, 0, 1, 0, 0, 1⟩) := by kernel_rfl
def fm_rnumber : Fm := (.loop 0 ⟨[(.x 0)], [], [], [], [], []⟩
  (.need (.lt (.x 1) (.len (.x 0))) (.and (.le (.c 0) (.x 1)) (.lt (.x 1) (.len (.x 0))))
  (.call (.lt (.x 1) (.len (.x 0))) false 25 [(.one (.i .u8 (.at (.x 0) (.x 1))))] (.p (.one (.i .i64 (.x 2)))) ⟨1, 0, 0, 0, 0, 0⟩
  (.ite (.and (.lt (.x 1) (.len (.x 0))) (.eqI (.x 2) (.c 3)))
  (.need (.c true) (.and (.le (.c (-9223372036854775808)) (.add (.x 1) (.c 1))) (.le (.add (.x 1) (.c 1)) (.c 9223372036854775807)))
  (.again 0 ⟨1, 0, 1, 0, 0, 0⟩ ⟨2, 0, 1, 0, 0, 0⟩ ⟨[(.add (.x 1) (.c 1))], [], [], [], [], []⟩))
  (.call (.c true) false 26 [(.one (.s (.x 0))), (.one (.i .i64 (.x 1)))] (.p (.one (.i .i64 (.x 3)))) ⟨1, 0, 0, 0, 0, 0⟩
  (.need (.c true) (.and (.le (.c (-9223372036854775808)) (.add (.x 1) (.c 1))) (.le (.add (.x 1) (.c 1)) (.c 9223372036854775807)))
  (.need (.eqI (.x 3) (.add (.x 1) (.c 1))) (.and (.le (.c 0) (.x 1)) (.lt (.x 1) (.len (.x 0))))
  (.ite (.and (.eqI (.x 3) (.add (.x 1) (.c 1))) (.eqI (.at (.x 0) (.x 1)) (.c 105)))
  (.loop 1 ⟨[(.x 0)], [], [], [], [], []⟩
  (.need (.c true) (.and (.le (.c (-9223372036854775808)) (.sub (.x 1) (.c 1))) (.le (.sub (.x 1) (.c 1)) (.c 9223372036854775807)))
  (.need (.lt (.x 4) (.sub (.x 1) (.c 1))) (.and (.le (.c 0) (.x 4)) (.lt (.x 4) (.len (.x 0))))
  (.ite (.and (.lt (.x 4) (.sub (.x 1) (.c 1))) (.eqI (.at (.x 0) (.x 4)) (.c 48)))
  (.need (.c true) (.and (.le (.c (-9223372036854775808)) (.add (.x 4) (.c 1))) (.le (.add (.x 4) (.c 1)) (.c 9223372036854775807)))
  (.again 1 ⟨4, 0, 1, 0, 0, 0⟩ ⟨5, 0, 1, 0, 0, 0⟩ ⟨[(.add (.x 4) (.c 1))], [], [], [], [], []⟩))
  (.need (.c true) (.and (.and (.le (.c 0) (.x 1)) (.le (.x 1) (.len (.x 0)))) (.and (.le (.c 0) (.x 4)) (.le (.x 4) (.x 1))))
  (.call (.c true) false 48 [(.one (.s (.sub (.x 0) (.x 4) (.x 1))))] (.tup [(.one (.i .i64 (.x 5))), (.one (.i .i64 (.x 6)))]) ⟨2, 0, 0, 0, 0, 0⟩
  (.ite (.or (.not (.eqI (.x 6) (.c 0))) (.lt (.c 8388607) (.x 5)))
  (.ret (.tup [(.agg [(.i .u8 (.c 4)), (.i .i64 (.c 0)), (.i .i64 (.c 0)), (.i .i64 (.c 0)), (.s (.c []))]), (.one (.i .i64 (.c 0))), (.one (.i .i64 (.c 14)))]))
  (.ret (.tup [(.agg [(.i .u8 (.c 4)), (.i .i64 (.c 0)), (.i .i64 (.c 0)), (.i .i64 (.x 5)), (.s (.c []))]), (.one (.i .i64 (.x 3))), (.one (.i .i64 (.c 0)))])))))))))
  (.ite (.not (.eqI (.x 3) (.x 1)))
  (.ret (.tup [(.agg [(.i .u8 (.c 3)), (.i .i64 (.c 0)), (.i .i64 (.c 0)), (.i .i64 (.c 0)), (.s (.c []))]), (.one (.i .i64 (.c 0))), (.one (.i .i64 (.c 4)))]))
  (.loop 1 ⟨[(.x 0)], [], [], [], [], []⟩
  (.need (.c true) (.and (.le (.c (-9223372036854775808)) (.sub (.x 1) (.c 1))) (.le (.sub (.x 1) (.c 1)) (.c 9223372036854775807)))
  (.need (.lt (.x 4) (.sub (.x 1) (.c 1))) (.and (.le (.c 0) (.x 4)) (.lt (.x 4) (.len (.x 0))))
  (.ite (.and (.lt (.x 4) (.sub (.x 1) (.c 1))) (.eqI (.at (.x 0) (.x 4)) (.c 48)))
  (.need (.c true) (.and (.le (.c (-9223372036854775808)) (.add (.x 4) (.c 1))) (.le (.add (.x 4) (.c 1)) (.c 9223372036854775807)))
  (.again 1 ⟨4, 0, 1, 0, 0, 0⟩ ⟨5, 0, 1, 0, 0, 0⟩ ⟨[(.add (.x 4) (.c 1))], [], [], [], [], []⟩))
  (.need (.c true) (.and (.and (.le (.c 0) (.x 1)) (.le (.x 1) (.len (.x 0)))) (.and (.le (.c 0) (.x 4)) (.le (.x 4) (.x 1))))
  (.call (.c true) false 48 [(.one (.s (.sub (.x 0) (.x 4) (.x 1))))] (.tup [(.one (.i .i64 (.x 5))), (.one (.i .i64 (.x 6)))]) ⟨2, 0, 0, 0, 0, 0⟩
  (.ite (.or (.not (.eqI (.x 6) (.c 0))) (.lt (.c 9223372036854775807) (.x 5)))
  (.ret (.tup [(.agg [(.i .u8 (.c 3)), (.i .i64 (.c 0)), (.i .i64 (.c 0)), (.i .i64 (.c 0)), (.s (.c []))]), (.one (.i .i64 (.c 0))), (.one (.i .i64 (.c 14)))]))
  (.ret (.tup [(.agg [(.i .u8 (.c 3)), (.i .i64 (.c 0)), (.i .i64 (.c 0)), (.i .i64 (.x 5)), (.s (.c []))]), (.one (.i .i64 (.x 3))), (.one (.i .i64 (.c 0)))]))))))))))))))))))
theorem gen_rnumber : genFn ⟨true, []⟩ Tryd.prog (fun l => ([⟨[7], [14, 15, 16, 17, 18, 19, 20, 21, 22, 23, 24, 25, 26], []⟩, ⟨[1], [46, 47, 48, 49, 50, 51, 52, 53, 54, 55, 56, 57], []⟩] : List LAnn).getD l ⟨[], [], []⟩) Tryd.f28 = fm_rnumber := by kernel_rfl
theorem ps_rnumber : freshPs Tryd.prog .zero Tryd.f28.params.toList = some ([(.one (.s (.x 0))), (.one (.i .i64 (.x 0)))], ⟨1, 0, 1, 0, 0, 0⟩) := by kernel_rfl
/-- Without the zeros ahead. -/
def strip : List UInt8 → List UInt8
  | a :: c :: t => if a.toNat = 48 then strip (c :: t) else a :: c :: t
  | l => l
theorem strip_trim (d : List UInt8) (hne : d ≠ []) : strip d = if Lib.trimLeftB d 48 = [] then [48] else Lib.trimLeftB d 48 := by
  induction d with
  | nil => exact absurd rfl hne
  | cons a t ih =>
    have e48 : (a == 48) = decide (a.toNat = 48) := by
      rw [Bool.eq_iff_iff]; simp
      constructor
      · rintro rfl; rfl
      · intro h; exact UInt8.toNat_inj.1 (by simpa using h)
    cases t with
    | nil =>
      simp only [strip, Lib.trimLeftB, List.dropWhile_cons, List.dropWhile_nil, e48]
      by_cases h : a.toNat = 48
      · have : a = 48 := UInt8.toNat_inj.1 (by simpa using h)
        subst this; simp
      · simp [h]
    | cons c t =>
      simp only [strip]
      by_cases h : a.toNat = 48
      · rw [if_pos h, ih (by simp)]
        have : Lib.trimLeftB (a :: c :: t) 48 = Lib.trimLeftB (c :: t) 48 := by
          simp only [Lib.trimLeftB, List.dropWhile_cons, e48, h, decide_true, if_true]
        rw [this]
      · rw [if_neg h]
        have : Lib.trimLeftB (a :: c :: t) 48 = a :: c :: t := by
          simp only [Lib.trimLeftB, List.dropWhile_cons, e48, h, decide_false]; rfl
        rw [this]; simp
def nfin (k most : Int) (d : List UInt8) (e : Nat) : Int × Int × Int × Nat :=
  if (pv (strip d)).2 = 0 ∧ (pv (strip d)).1 ≤ most then (0, k, (pv (strip d)).1, e) else (14, 0, 0, 0)
/-- A number: the fault, the kind, the number, where it ends. -/
def nm (s : List UInt8) (i : Nat) : Int × Int × Int × Nat :=
  if rn inB s (i + rn dgB s i) = 0 then nfin 3 9223372036854775807 (sub s i (i + rn dgB s i)) (i + rn dgB s i)
  else if rn inB s (i + rn dgB s i) = 1 ∧ bt s (i + rn dgB s i) = 105 then nfin 4 8388607 (sub s i (i + rn dgB s i)) (i + rn dgB s i + 1)
  else (4, 0, 0, 0)
def ctTrimZ : Ct Tryd.prog where
  f := 59
  spec := fun args h φ => ∃ d, args = [.string (B d), .string (B [48])] ∧ φ (.string (B (Lib.trimLeftB d 48))) h
  ok := by
    rintro args h φ w ⟨d, rfl, hφ⟩ hH
    refine ct_same (v := .string (B (Lib.trimLeftB d 48))) ((Tryd.strings_TrimLeft_one (B d) 48 (by decide) w).mono fun e w' ⟨he, hw⟩ => ⟨?_, hw.symm⟩) hφ hH
    rw [he]
    simp [B]
def ctNumParse : Ct Tryd.prog where
  f := 60
  spec := fun args h φ => ∃ l, args = [.string (B l)] ∧ l.length < 1000000 ∧ φ (.tuple #[.int .i64 (pv l).1, .int .i64 (pv l).2]) h
  ok := by rintro args h φ w ⟨l, rfl, hl, hφ⟩ hH; exact ct_same (nparse_any l w hl) hφ hH
def ctRefParse : Ct Tryd.prog where
  f := 48
  spec := fun args h φ => ∃ l, args = [.string (B l)] ∧ l.length < 1000000 ∧ φ (.tuple #[.int .i64 (pv l).1, .int .i64 (pv l).2]) h
  ok := by rintro args h φ w ⟨l, rfl, hl, hφ⟩ hH; exact ct_value (rparse_any l w hl) hφ hH
theorem trimLeftB_len (d : List UInt8) (c : UInt8) : (Lib.trimLeftB d c).length ≤ d.length := by
  unfold Lib.trimLeftB; exact (List.dropWhile_sublist _).length_le
end Go.Proofs.YthlakehilhpojaaDoor
namespace Go.Proofs.YthlakehilhpojaaDoor
open Go.RowKit
attribute [local go_sem] says_tt says_ff th_need th_ite th_call th_callK th_load th_store th_mk th_new th_mks th_str says_ret says_again says_app BE.den IE.den SE.den LE.den AE.den CE.den PE.den VE.den KV.val Got.den Got.cnt exI allI exL allL Ctx.push Ctx.heap Ctx.cut Ctx.bare Ctx.mark Inc.blank List.getD_cons_zero List.getD_cons_succ List.cons_append List.nil_append List.append_nil List.map_cons List.map_nil List.replicate_zero List.replicate_succ specOf ltB_t leB_t ltB_f leB_f slc_val slc_nil slc_inj pt_val pt_nil hle_noHeap hle_refl hread_set hwrite_set set_same set_set noHeap_at B_inj ones_nil and_assoc
theorem dg_in {b : Int} (h : dgB b = true) : inB b = true := by
  have : kdi b = 3 := by simpa [dgB] using h
  simp [inB, this]
theorem in105 : inB 105 = true := by decide
theorem drop_take_sub (s : List UInt8) (i j : Nat) : List.drop i (List.take j s) = sub s i j := rfl
theorem strip_le (d : List UInt8) : (strip d).length ≤ d.length := by
  by_cases h : d = []
  · subst h; exact Nat.le_refl _
  · rw [strip_trim d h]
    have := trimLeftB_len d 48
    split
    · cases d with
      | nil => exact absurd rfl h
      | cons a t => simp
    · exact this
set_option maxRecDepth 100000 in
set_option maxHeartbeats 8000000 in
def ctNumber : Ct Tryd.prog where
  f := 36
  spec := fun args h φ => ∃ b k l c n x s a L Co T, args = [.pointer (some ⟨b, 0, none⟩), tkv k l c n x] ∧ h b = some ⟨rc s a L Co, T⟩ ∧ 0 ≤ a ∧ a < s.length ∧ s.length ≤ 100000 ∧ 0 ≤ Co ∧ Co ≤ 500000 ∧ dgB (bt s a.toNat) = true ∧
    (if (nm s a.toNat).1 = 0 then φ (.tuple #[tkv (nm s a.toNat).2.1 l c (nm s a.toNat).2.2.1 x, .int .i64 0]) (h.set b ⟨rc s ((nm s a.toNat).2.2.2 : Nat) L (Co + ((nm s a.toNat).2.2.2 : Nat) - a), T⟩)
      else φ (.tuple #[tkv 0 0 0 0 [], .int .i64 (nm s a.toNat).1]) h)
  ok := by
    rintro args h φ w ⟨b, k, l, c, n, x, s, a, L, Co, T, rfl, hb, h0, h1, h2, c0, c1, hdg, hφ⟩ hH
    obtain ⟨h, rfl⟩ : ∃ h', h = Hp.set h' b ⟨rc s a L Co, T⟩ := ⟨h, set_self hb⟩
    obtain ⟨a, rfl⟩ : ∃ n : Nat, a = n := ⟨a.toNat, by omega⟩
    rw [Int.toNat_natCast] at hφ hdg
    rw [set_set] at hφ
    have hle := rn_le (p := dgB) (s := s) (i := a) (by omega)
    have hy := rn_yes (p := dgB) (s := s) (i := a) (by omega) hdg
    have hsl := sub_len s (i := a) hle
    have hne : sub s a (a + rn dgB s a) ≠ [] := by intro e; rw [e] at hsl; simp at hsl; omega
    have hst := strip_trim _ hne
    have htl := trimLeftB_len (sub s a (a + rn dgB s a)) 48
    have hnm : nm s a = _ := rfl
    conv at hnm => rhs; unfold nm
    refine by_fm Tryd.func36 gen_number ps_number [ctRun, ctInner, ctTrimZ, ctNumParse, ctPass] φ noInv noMeas ⟨[k, l, c, n], [], [x], [], [], [some (b, 0)], h.set b ⟨rc s a L Co, T⟩, noM⟩ ⟨rfl, rfl, rfl, rfl, rfl, rfl⟩ ones_nil ?_ w hH rfl
    generalize hN : rn dgB s a = N at *
    generalize hD : sub s a (a + N) = d at *
    have e1 : ((a : Int) + (N : Int)).toNat = a + N := by omega
    have e1' : ((a : Int) + ((N : Int) + 1)).toNat = a + N + 1 := by omega
    have e2 : List.drop a (List.take (a + N) s) = d := hD
    -- the number itself
    have hv : ∀ kk most e P (m : Int), nm s a = nfin kk most d e → strip d = P → (pv P).2 = 0 → (pv P).1 ≤ most → (e : Int) = a + m → φ (.tuple #[.agg #[.int .u8 kk, .int .i64 l, .int .i64 c, .int .i64 (pv P).1, .string (B x)], .int .i64 0]) (h.set b ⟨[.string (B s), .int .i64 (a + m), .int .i64 L, .int .i64 (Co + m)], T⟩) := by
      intro kk most e P m hn hP h3 h4 he
      subst hP
      have e' : nfin kk most d e = (0, kk, (pv (strip d)).1, e) := if_pos ⟨h3, h4⟩
      rw [hn, e', if_pos rfl] at hφ
      simp only [rc, tkv, he] at hφ
      rw [show Co + ((a : Int) + m) - a = Co + m by omega] at hφ
      exact hφ
    have ho : ∀ kk most e, nm s a = nfin kk most d e → ¬ ((pv (strip d)).2 = 0 ∧ (pv (strip d)).1 ≤ most) → φ (.tuple #[.agg #[.int .u8 0, .int .i64 0, .int .i64 0, .int .i64 0, .string (B [])], .int .i64 14]) (h.set b ⟨[.string (B s), .int .i64 a, .int .i64 L, .int .i64 Co], T⟩) := by
      intro kk most e hn h3
      have e' : nfin kk most d e = (14, 0, 0, 0) := if_neg h3
      rw [hn, e', if_neg (by decide)] at hφ
      exact hφ
    have h4 : nm s a = (4, 0, 0, 0) → φ (.tuple #[.agg #[.int .u8 0, .int .i64 0, .int .i64 0, .int .i64 0, .string (B [])], .int .i64 4]) (h.set b ⟨[.string (B s), .int .i64 a, .int .i64 L, .int .i64 Co], T⟩) := by
      intro hn
      rw [hn, if_neg (by decide)] at hφ
      exact hφ
    clear hφ
    rw [← then_step]; unfold fm_number
    iterate 90 (first | (simp only [then_step]; simp [go_sem, rc, ctRun, runSpec, ctInner, ctTrimZ, ctNumParse, ctPass, tkv, hN, e1, e1', e2]) | skip)
    have hP1 : Lib.trimLeftB d 48 = [] → strip d = [48] := fun h => by rw [hst, if_pos h]
    have hP2 : ¬ Lib.trimLeftB d 48 = [] → strip d = Lib.trimLeftB d 48 := fun h => by rw [hst, if_neg h]
    clear hst hN hD e2 hb hH
    by_cases hk : a + N < s.length
    · have hkz : (a : Int) + N < s.length := by omega
      by_cases h105 : bt s (a + N) = 105
      · have hyy := rn_yes (p := inB) hk (by rw [h105]; exact in105)
        by_cases hk1 : a + N + 1 < s.length
        · have hkz1 : (a : Int) + (N + 1) < s.length := by omega
          cases hin : inB (bt s (a + N + 1))
          · rw [rn_no hk1 hin] at hyy
            have hn : nm s a = nfin 4 8388607 d (a + N + 1) := by rw [hnm, hyy, if_neg (by decide), if_pos ⟨rfl, h105⟩]
            clear h4 hnm
            simp [hkz, hkz1, h105, hin]
            by_cases ht : Lib.trimLeftB d 48 = []
            · have hP := hP1 ht
              by_cases he : (pv [48]).2 = 0
              · by_cases hm : 8388607 < (pv [48]).1
                · simp [ht, he, hm]
                  (repeat' apply And.intro) <;> first | omega | exact ho _ _ _ hn (by rw [hP]; omega)
                · simp [ht, he, hm]
                  (repeat' apply And.intro) <;> first | omega | exact hv _ _ _ _ _ hn hP he (by omega) (by omega)
              · simp [ht, he]
                (repeat' apply And.intro) <;> first | omega | exact ho _ _ _ hn (by rw [hP]; omega)
            · have hP := hP2 ht
              by_cases he : (pv (Lib.trimLeftB d 48)).2 = 0
              · by_cases hm : 8388607 < (pv (Lib.trimLeftB d 48)).1
                · simp [ht, he, hm]
                  (repeat' apply And.intro) <;> first | omega | exact ho _ _ _ hn (by rw [hP]; omega)
                · simp [ht, he, hm]
                  (repeat' apply And.intro) <;> first | omega | exact hv _ _ _ _ _ hn hP he (by omega) (by omega)
              · simp [ht, he]
                (repeat' apply And.intro) <;> first | omega | exact ho _ _ _ hn (by rw [hP]; omega)
          · have := rn_yes hk1 hin
            have hf := h4 (by rw [hnm, if_neg (by omega), if_neg (by omega)])
            simp [hkz, hkz1, h105, hin]
            (repeat' apply And.intro) <;> first | omega | exact hf
        · have hkz1 : ¬ ((a : Int) + (N + 1) < s.length) := by omega
          rw [rn_end (p := inB) (s := s) (i := a + N + 1) (by omega)] at hyy
          have hn : nm s a = nfin 4 8388607 d (a + N + 1) := by rw [hnm, hyy, if_neg (by decide), if_pos ⟨rfl, h105⟩]
          clear h4 hnm
          simp [hkz, hkz1, h105]
          by_cases ht : Lib.trimLeftB d 48 = []
          · have hP := hP1 ht
            by_cases he : (pv [48]).2 = 0
            · by_cases hm : 8388607 < (pv [48]).1
              · simp [ht, he, hm]
                (repeat' apply And.intro) <;> first | omega | exact ho _ _ _ hn (by rw [hP]; omega)
              · simp [ht, he, hm]
                (repeat' apply And.intro) <;> first | omega | exact hv _ _ _ _ _ hn hP he (by omega) (by omega)
            · simp [ht, he]
              (repeat' apply And.intro) <;> first | omega | exact ho _ _ _ hn (by rw [hP]; omega)
          · have hP := hP2 ht
            by_cases he : (pv (Lib.trimLeftB d 48)).2 = 0
            · by_cases hm : 8388607 < (pv (Lib.trimLeftB d 48)).1
              · simp [ht, he, hm]
                (repeat' apply And.intro) <;> first | omega | exact ho _ _ _ hn (by rw [hP]; omega)
              · simp [ht, he, hm]
                (repeat' apply And.intro) <;> first | omega | exact hv _ _ _ _ _ hn hP he (by omega) (by omega)
            · simp [ht, he]
              (repeat' apply And.intro) <;> first | omega | exact ho _ _ _ hn (by rw [hP]; omega)
      · cases hin : inB (bt s (a + N))
        · have hn : nm s a = nfin 3 9223372036854775807 d (a + N) := by rw [hnm, if_pos (rn_no hk hin)]
          clear h4 hnm
          simp [hkz, h105, hin]
          by_cases ht : Lib.trimLeftB d 48 = []
          · have hP := hP1 ht
            by_cases he : (pv [48]).2 = 0
            · by_cases hm : 9223372036854775807 < (pv [48]).1
              · simp [ht, he, hm]
                (repeat' apply And.intro) <;> first | omega | exact ho _ _ _ hn (by rw [hP]; omega)
              · simp [ht, he, hm]
                (repeat' apply And.intro) <;> first | omega | exact hv _ _ _ _ _ hn hP he (by omega) (by omega)
            · simp [ht, he]
              (repeat' apply And.intro) <;> first | omega | exact ho _ _ _ hn (by rw [hP]; omega)
          · have hP := hP2 ht
            by_cases he : (pv (Lib.trimLeftB d 48)).2 = 0
            · by_cases hm : 9223372036854775807 < (pv (Lib.trimLeftB d 48)).1
              · simp [ht, he, hm]
                (repeat' apply And.intro) <;> first | omega | exact ho _ _ _ hn (by rw [hP]; omega)
              · simp [ht, he, hm]
                (repeat' apply And.intro) <;> first | omega | exact hv _ _ _ _ _ hn hP he (by omega) (by omega)
            · simp [ht, he]
              (repeat' apply And.intro) <;> first | omega | exact ho _ _ _ hn (by rw [hP]; omega)
        · have := rn_yes hk hin
          have hf := h4 (by rw [hnm, if_neg (by omega), if_neg (fun h => h105 h.2)])
          simp [hkz, h105, hin]
          (repeat' apply And.intro) <;> first | omega | exact hf
    · have hkz : ¬ ((a : Int) + N < s.length) := by omega
      have hn : nm s a = nfin 3 9223372036854775807 d (a + N) := by rw [hnm, if_pos (rn_end (by omega))]
      clear h4 hnm
      simp [hkz]
      by_cases ht : Lib.trimLeftB d 48 = []
      · have hP := hP1 ht
        by_cases he : (pv [48]).2 = 0
        · by_cases hm : 9223372036854775807 < (pv [48]).1
          · simp [ht, he, hm]
            (repeat' apply And.intro) <;> first | omega | exact ho _ _ _ hn (by rw [hP]; omega)
          · simp [ht, he, hm]
            (repeat' apply And.intro) <;> first | omega | exact hv _ _ _ _ _ hn hP he (by omega) (by omega)
        · simp [ht, he]
          (repeat' apply And.intro) <;> first | omega | exact ho _ _ _ hn (by rw [hP]; omega)
      · have hP := hP2 ht
        by_cases he : (pv (Lib.trimLeftB d 48)).2 = 0
        · by_cases hm : 9223372036854775807 < (pv (Lib.trimLeftB d 48)).1
          · simp [ht, he, hm]
            (repeat' apply And.intro) <;> first | omega | exact ho _ _ _ hn (by rw [hP]; omega)
          · simp [ht, he, hm]
            (repeat' apply And.intro) <;> first | omega | exact hv _ _ _ _ _ hn hP he (by omega) (by omega)
        · simp [ht, he]
          (repeat' apply And.intro) <;> first | omega | exact ho _ _ _ hn (by rw [hP]; omega)
end Go.Proofs.YthlakehilhpojaaDoor
