/- The reckoner, part E: memory. -/
import Derived.Test.YtcfopechdlgioaaGreatDoorEvD
import Derived.Deep.Upon
namespace Go.Proofs.YtcfopechdlgioaaGreatDoor
open Go.RowKit
def EB.ok (σ : Sg) (r : Nat × Nat) (o : Option Obj) : EB → Prop
  | .c cs ty => ∃ xs : List Value, o = some (.cells xs.toArray ty (0, 0)) ∧ xs.length = r.2 ∧ cs.length ≤ xs.length ∧ isL σ cs (xs.take cs.length)
  | .m => ∃ es ck, o = some (.map es ck)
theorem EB.ok_le {σ τ : Sg} (h : σ.Le τ) {x : EB} {r : Nat × Nat} {o : Option Obj} (hx : x.ok σ r o) : x.ok τ r o := by
  cases x with
  | c cs ty => obtain ⟨xs, h1, h2, h3, h4⟩ := hx; exact ⟨xs, h1, h2, h3, isL_le h h4⟩
  | m => exact hx
/-- The world that the blocks stand for. -/
structure Sim (w0 : World) (σ : Sg) (H : Hm) (nx : Nat) (w : World) : Prop where
  bel : Below w0.heap.size w0 w
  new : ∀ b, nx ≤ b → σ.r b = none
  ok : ∀ b x r, H.get b = some x → σ.r b = some r → w0.heap.size ≤ r.1 ∧ x.ok σ r w.heap[r.1]?
  inj : ∀ b c r s, σ.r b = some r → σ.r c = some s → H.get b ≠ none → H.get c ≠ none → r.1 = s.1 → b = c
/-- Of the blocks up to nx nothing is known more. -/
structure ExtS (nx : Nat) (σ τ : Sg) : Prop where
  r : ∀ b, b < nx → τ.r b = σ.r b
  v : τ.v = σ.v
theorem ExtS.refl (nx : Nat) (σ : Sg) : ExtS nx σ σ := ⟨fun _ _ => rfl, rfl⟩
theorem ExtS.trans {nx ny : Nat} {σ τ υ : Sg} (a : ExtS nx σ τ) (b : ExtS ny τ υ) (h : nx ≤ ny) : ExtS nx σ υ := ⟨fun x hx => (b.r x (by omega)).trans (a.r x hx), b.v.trans a.v⟩
theorem Sim.le {w0 w : World} {σ τ : Sg} {H : Hm} {nx : Nat} (S : Sim w0 σ H nx w) (e : ExtS nx σ τ) : σ.Le τ := by
  refine ⟨fun b x hb => ?_, e.v⟩
  rcases Nat.lt_or_ge b nx with h | h
  · rw [e.r b h]; exact hb
  · rw [S.new b h] at hb; cases hb
def Sg.set (σ : Sg) (b : Nat) (r : Nat × Nat) : Sg := ⟨fun c => if c = b then some r else σ.r c, σ.v⟩
theorem Sg.set_le {σ : Sg} {b : Nat} {r : Nat × Nat} (h : σ.r b = none) : σ.Le (σ.set b r) := ⟨fun c x hc => by
  show (if c = b then some r else σ.r c) = some x
  rw [if_neg (fun e => by rw [e, h] at hc; cases hc)]; exact hc, rfl⟩
theorem Sg.set_same (σ : Sg) (b : Nat) (r : Nat × Nat) : (σ.set b r).r b = some r := if_pos rfl
theorem Sg.set_other (σ : Sg) {b c : Nat} (r : Nat × Nat) (h : c ≠ b) : (σ.set b r).r c = σ.r c := if_neg h
section
variable {P : Program} {w0 w w' : World} {σ τ : Sg} {H : Hm} {nx N : Nat} {T : Tm} {a : Act}
theorem Sim.lt (S : Sim w0 σ H nx w) {b : Nat} {x : EB} {r : Nat × Nat} (hb : H.get b = some x) (hr : σ.r b = some r) : r.1 < w.heap.size := by
  obtain ⟨_, h⟩ := S.ok b x r hb hr
  cases x with
  | c cs ty => obtain ⟨xs, h1, _⟩ := h; exact (Array.getElem?_eq_some_iff.1 h1).1
  | m => obtain ⟨es, ck, h1⟩ := h; exact (Array.getElem?_eq_some_iff.1 h1).1
theorem Sim.drew (S : Sim w0 σ H nx w) : Sim w0 σ H nx w.drew := ⟨S.bel.drew, S.new, S.ok, S.inj⟩
/-- A new block. -/
theorem Sim.alloc (S : Sim w0 σ H nx w) {b ny k : Nat} {x : EB} {o : Obj} {K : Hm} (hb : σ.r b = none) (hny : nx ≤ ny) (hlt : b < ny) (hK : K.get b = some x) (hKo : ∀ c, c ≠ b → K.get c = H.get c)
    (hx : x.ok (σ.set b (w.heap.size, k)) (w.heap.size, k) (some o)) : Sim w0 (σ.set b (w.heap.size, k)) K ny (w.alloc o) := by
  have le := Sg.set_le (σ := σ) (r := (w.heap.size, k)) hb
  have hsz : w0.heap.size ≤ w.heap.size := S.bel.size
  refine ⟨S.bel.alloc hsz o, fun c hc => ?_, fun c y r hc hr => ?_, fun c d r s hr hs hc hd e => ?_⟩
  · rw [Sg.set_other _ _ (by omega)]; exact S.new c (by omega)
  · by_cases e : c = b
    · subst e
      rw [Sg.set_same] at hr; cases hr
      rw [hK] at hc; cases hc
      refine ⟨hsz, ?_⟩
      have : (w.alloc o).heap[w.heap.size]? = some o := by show (w.heap.push o)[w.heap.size]? = _; simp
      rw [this]; exact hx
    · rw [Sg.set_other _ _ e] at hr
      rw [hKo c e] at hc
      obtain ⟨h1, h2⟩ := S.ok c y r hc hr
      refine ⟨h1, ?_⟩
      rw [Below.heap_alloc _ _ _ (S.lt hc hr)]
      exact EB.ok_le le h2
  · by_cases e1 : c = b
    · by_cases e2 : d = b
      · rw [e1, e2]
      · subst e1
        rw [Sg.set_same] at hr; cases hr
        rw [Sg.set_other _ _ e2] at hs
        rw [hKo d e2] at hd
        obtain ⟨y, hy⟩ := Option.ne_none_iff_exists'.1 hd
        have := S.lt hy hs
        simp only at e; omega
    · by_cases e2 : d = b
      · subst e2
        rw [Sg.set_same] at hs; cases hs
        rw [Sg.set_other _ _ e1] at hr
        rw [hKo c e1] at hc
        obtain ⟨y, hy⟩ := Option.ne_none_iff_exists'.1 hc
        have := S.lt hy hr
        simp only at e; omega
      · rw [Sg.set_other _ _ e1] at hr
        rw [Sg.set_other _ _ e2] at hs
        rw [hKo c e1] at hc
        rw [hKo d e2] at hd
        exact S.inj c d r s hr hs hc hd e
/-- A block is written. -/
theorem Sim.write (S : Sim w0 σ H nx w) {b : Nat} {x y : EB} {r : Nat × Nat} {K : Hm} (hb : H.get b = some x) (hr : σ.r b = some r) (hK : K.get b = some y) (hKo : ∀ c, c ≠ b → K.get c = H.get c)
    (hos : w'.os = w.os) (htp : w'.tape = w.tape) (hout : w'.output = w.output) (hsz : w'.heap.size = w.heap.size) (hoth : ∀ k, k ≠ r.1 → w'.heap[k]? = w.heap[k]?) (hy : y.ok σ r w'.heap[r.1]?) : Sim w0 σ K nx w' := by
  have hrb := (S.ok b x r hb hr).1
  refine ⟨⟨hos.trans S.bel.os, htp.trans S.bel.tape, hout.trans S.bel.output, by rw [hsz]; exact S.bel.size, fun k hk => (hoth k (by omega)).trans (S.bel.block k hk)⟩, S.new, fun c z s hc hs => ?_, fun c d s t hs ht hc hd e => ?_⟩
  · by_cases e : c = b
    · subst e
      rw [hr] at hs; cases hs
      rw [hK] at hc; cases hc
      exact ⟨hrb, hy⟩
    · rw [hKo c e] at hc
      obtain ⟨h1, h2⟩ := S.ok c z s hc hs
      refine ⟨h1, ?_⟩
      rw [hoth _ fun e' => e (S.inj c b s r hs hr (by rw [hc]; simp) (by rw [hb]; simp) e')]
      exact h2
  · have key : ∀ c, K.get c ≠ none → H.get c ≠ none := fun c hc => by
      by_cases e : c = b
      · subst e; rw [hb]; simp
      · rw [← hKo c e]; exact hc
    exact S.inj c d s t hs ht (key c hc) (key d hd) e
/-- Cells that are read. -/
theorem Sim.cell (S : Sim w0 σ H nx w) {b : Nat} {cs : List CV} {ty : TypeId} {r : Nat × Nat} (hb : H.get b = some (.c cs ty)) (hr : σ.r b = some r) : ∃ k, isL σ cs k ∧ ∀ j u, k[j]? = some u → w.cell? ⟨r.1, j, none⟩ = some u := by
  obtain ⟨_, xs, h1, h2, h3, h4⟩ := S.ok b _ r hb hr
  refine ⟨_, h4, fun j u hu => ?_⟩
  rw [cell_row h1]
  rw [List.getElem?_take] at hu
  split at hu
  · exact hu
  · cases hu
theorem readC_is (S : Sim w0 σ H nx w) {b o n : Nat} {l : List CV} {r : Nat × Nat} (h : readC H b o n = some l) (hr : σ.r b = some r) : ∃ k, isL σ l k ∧ k.length = n ∧ ∀ j u, k[j]? = some u → w.cell? ⟨r.1, o + j, none⟩ = some u := by
  unfold readC at h
  split at h
  · rename_i cs ty hb
    rw [dropC_eq] at h
    obtain ⟨hle, rfl⟩ := takeC_some h
    obtain ⟨k, hk, hc⟩ := S.cell hb hr
    have hl := isL_len hk
    refine ⟨(k.drop o).take n, isL_take n (isL_drop o hk), ?_, fun j u hu => ?_⟩
    · rw [List.length_take, List.length_drop, ← hl]
      rw [List.length_drop] at hle
      omega
    · rw [List.getElem?_take] at hu
      split at hu
      · rw [List.getElem?_drop] at hu; exact hc _ _ hu
      · cases hu
  · cases h
/-- The cells of a slice. -/
theorem cellsC_is (S : Sim w0 σ H nx w) {z : Nat} {x : CV} {l : List CV} {u : Value} (h : cellsC H z x = some l) (hx : x.is σ u) : ∃ ad n c k, u = .slice ad n c ∧ n ≤ c ∧ isL σ l k ∧ k.length = n * z ∧ ((ad = none ∧ n = 0) ∨ ∃ g o, ad = some ⟨g, o, none⟩ ∧ ∀ j v, k[j]? = some v → w.cell? ⟨g, o + j, none⟩ = some v) := by
  unfold cellsC at h
  split at h
  · rename_i b o n c
    obtain ⟨hnc, r, hr, rfl⟩ := hx
    cases hn : Nat.beq n 0 with
    | true =>
      have : n = 0 := Nat.eq_of_beq_eq_true hn
      subst this
      rw [hn] at h; cases h
      exact ⟨_, _, _, [], rfl, hnc, .nil, by simp, .inr ⟨_, _, rfl, fun j v hv => by simp at hv⟩⟩
    | false =>
      rw [hn] at h
      obtain ⟨k, h1, h2, h3⟩ := readC_is S h hr
      exact ⟨_, _, _, k, rfl, hnc, h1, h2, .inr ⟨_, _, rfl, h3⟩⟩
  · rename_i b e z0 n
    obtain ⟨r, c, hr, hrc, hen, hcm, rfl⟩ := hx
    cases hz : Nat.beq z z0 with
    | false => rw [hz] at h; cases h
    | true =>
      have : z = z0 := Nat.eq_of_beq_eq_true hz
      subst this
      rw [hz, cond_true] at h
      cases hn : Nat.beq n 0 with
      | true =>
        have : n = 0 := Nat.eq_of_beq_eq_true hn
        subst this
        rw [hn] at h; cases h
        exact ⟨_, _, _, [], rfl, Nat.zero_le _, .nil, by simp, .inr ⟨_, _, rfl, fun j v hv => by simp at hv⟩⟩
      | false =>
        rw [hn] at h
        obtain ⟨k, h1, h2, h3⟩ := readC_is S h hr
        exact ⟨_, _, _, k, rfl, by omega, h1, h2, .inr ⟨_, _, rfl, h3⟩⟩
  · cases hx; cases h
    exact ⟨_, _, _, [], rfl, Nat.le_refl _, .nil, by simp, .inl ⟨rfl, rfl⟩⟩
  · cases h
theorem bytesOf_is : ∀ {l : List CV} {r : List Nat} {k : List Value}, bytesOf l = some r → isL σ l k → (∀ x ∈ r, x < 256) ∧ k = r.map fun c => Value.int .u8 (c : Nat)
  | [], r, [], h, _ => by cases h; exact ⟨fun x hx => (by cases hx), rfl⟩
  | c :: l, r, x :: k, h, .cons h1 h2 => by
    unfold bytesOf at h
    split at h
    · rename_i e; cases e
    · rename_i m l' e
      cases e
      cases hb : Nat.blt m 256 with
      | false => rw [hb] at h; cases h
      | true =>
        rw [hb, cond_true, consO_some] at h
        obtain ⟨q, hq, rfl⟩ := h
        obtain ⟨h3, rfl⟩ := bytesOf_is hq h2
        refine ⟨fun y hy => ?_, ?_⟩
        · rcases List.mem_cons.1 hy with rfl | hy
          · simpa using hb
          · exact h3 y hy
        · rw [List.map_cons, ← show x = Value.int .u8 (m : Nat) from h1]
    · cases h
theorem evR_run (S : Sim w0 σ H nx w) (G : TS σ N T a.tmps) {o : Oper} {e : EV} (h : evR P T H o.op = some e) : ∃ v, e.is σ v ∧ (execOp a.eval o).run P w = .ok (.value v) w := by
  cases hop : o.op with
  | load t x =>
    rw [hop] at h
    simp only [evR] at h
    split at h
    · rename_i b off hx
      obtain ⟨r, hr, hv⟩ := opC_is G hx
      split at h
      · rename_i d n hd hn
        split at h
        · rename_i l hl
          obtain ⟨k, hk, hlen, hc⟩ := readC_is S hl hr
          have hrun := loadk_run (P := P) (w := w) hd hn (q := (r.1, off)) hlen hc
          split at h
          · rename_i hagg
            cases h
            refine ⟨_, ⟨k, hk, rfl⟩, ?_⟩
            unfold execOp
            rw [hop]
            refine run_v ?_
            rw [hv]
            exact hrun.1 hagg
          · rename_i hagg
            split at h
            · rename_i c
              cases h
              obtain ⟨u, rfl, hcu⟩ : ∃ u, k = [u] ∧ c.is σ u := by
                cases hk with
                | cons h1 h2 => cases h2; exact ⟨_, rfl, h1⟩
              refine ⟨u, hcu, ?_⟩
              unfold execOp
              rw [hop]
              refine run_v ?_
              rw [hv]
              exact hrun.2 hagg u rfl
            · cases h
        · cases h
      · cases h
    · cases h
  | convert s d x =>
    rw [hop] at h
    simp only [evR] at h
    split at h
    · rename_i v hty hx
      split at h
      · rename_i l hl
        split at h
        · rename_i r hr
          cases h
          obtain ⟨ad, n, c, k, hu, hnc, hk, hlen, had⟩ := cellsC_is S hl (opC_is G hx)
          obtain ⟨hlt, rfl⟩ := bytesOf_is hr hk
          refine ⟨_, rfl, ?_⟩
          unfold execOp
          rw [hop]
          refine run_v ?_
          rw [hu]
          rw [List.length_map, Nat.mul_one] at hlen
          subst hlen
          rcases had with ⟨rfl, hn0⟩ | ⟨g, off, rfl, hc⟩
          · have hr0 : r = [] := List.eq_nil_of_length_eq_zero hn0
            subst hr0
            have hc0 := bytes_string_run (P := P) (w := w) hty (s := ⟨none, 0, c⟩) (bs := []) (h := fun _ => none) (fun b o hb => by cases hb) (.inl ⟨rfl, rfl⟩)
            exact hc0
          · unfold bytesTy at hty
            split at hty
            · rename_i e hs1 hd1
              split at hty
              · rename_i he1
                have := run_bytes_B (P := P) w s d e g off c (r.map UInt8.ofNat) hs1 he1 hd1 (fun j hj => by
                  have hj' : j < r.length := by simpa using hj
                  have := hc j (.int .u8 (r[j] : Nat)) (by simp [hj'])
                  rw [this]
                  congr 2
                  unfold bt
                  rw [List.getD_eq_getElem?_getD, List.getElem?_map, List.getElem?_eq_getElem hj']
                  simp only [Option.map_some, Option.getD_some, UInt8.toNat_ofNat']
                  have := hlt _ (List.getElem_mem hj')
                  omega)
                rw [List.length_map] at this
                exact this
              · cases hty
            · cases hty
        · cases h
      · cases h
    · cases h
  | _ => rw [hop] at h; cases h
theorem repC_is {zs : List CV} {k : List Value} (hk : isL σ zs k) : ∀ c, isL σ (repC zs c) (madeCells k.toArray (c * k.length)).toList
  | 0 => by rw [Nat.zero_mul, show (madeCells k.toArray 0).toList = [] by simp [madeCells]]; exact .nil
  | c + 1 => by
    have : (madeCells k.toArray ((c + 1) * k.length)).toList = k ++ (madeCells k.toArray (c * k.length)).toList := by
      apply List.ext_getElem?
      intro i
      have get : ∀ n i, (madeCells k.toArray n).toList[i]? = if i < n then some (k[i % k.length]!) else none := fun n i => by
        unfold madeCells
        simp only [Array.toList_map, Array.toList_range, List.getElem?_map, List.getElem?_range']
        split
        · rename_i h; simp [h]
        · rename_i h; simp [h]
      rw [get, List.getElem?_append]
      split
      · rename_i h
        split
        · rename_i h2
          rw [Nat.mod_eq_of_lt h2, List.getElem?_eq_getElem h2]
          simp [h2]
        · rename_i h2
          rw [get]
          rw [Nat.add_mul] at h
          rw [if_pos (by omega)]
          congr 2
          rw [← Nat.mod_eq_sub_mod (by omega)]
      · rename_i h
        rw [Nat.add_mul] at h
        rw [if_neg (by omega), get, if_neg (by omega)]
    rw [this, repC, app_eq]
    exact isL_app hk (repC_is hk c)
theorem evA_run (G : TS σ N T a.tmps) {o : Oper} {x : EB} {mk : Nat → CV} (h : evA P T o.op = some (x, mk)) (w : World) :
    ∃ obj v k, (execOp a.eval o).run P w = .ok (.value v) (w.alloc obj) ∧ ∀ τ b, σ.Le τ → τ.r b = some (w.heap.size, k) → (mk b).is τ v ∧ x.ok τ (w.heap.size, k) (some obj) := by
  have whole : ∀ {cs : List CV} {xs : List Value} {t : TypeId} {τ : Sg} {n : Nat}, σ.Le τ → isL σ cs xs → (EB.c cs t).ok τ (n, xs.length) (some (.cells xs.toArray t (0, 0))) := fun {cs xs t τ n} hle hl => by
    have hlen := isL_len hl
    exact ⟨xs, rfl, rfl, by omega, by rw [hlen, List.take_length]; exact isL_le hle hl⟩
  cases hop : o.op with
  | alloc t =>
    rw [hop] at h
    simp only [evA] at h
    split at h
    · rename_i z hz
      cases h
      obtain ⟨i, zv, k, hi, hzv, hzc, hzk⟩ := zeroV_is (σ := σ) hz
      refine ⟨.cells k.toArray t (0, 0), .pointer (some ⟨w.heap.size, 0, none⟩), k.length, ?_, fun τ b hle hb => ⟨⟨_, hb, rfl⟩, whole hle hzk⟩⟩
      unfold execOp
      rw [hop]
      have hzero : (zeroValue t).run P w = .ok zv w := by simp [zeroValue, typeInfo, hi, hzv]
      refine run_v2 ?_
      unfold Instr.alloc
      rw [Sem.run_bind, hzero, Result.andThen_ok]
      simp only [newVar, newRow, hzc]
      rfl
    · cases h
  | box t y =>
    rw [hop] at h
    simp only [evA] at h
    split at h
    · rename_i v hv
      cases hn : noUn v.cells with
      | false => rw [hn] at h; cases h
      | true =>
        rw [hn] at h; cases h
        obtain ⟨k, hk, hc⟩ := PV.cells_is (opP_is G hv)
        refine ⟨.cells k.toArray t (0, 0), .pointer (some ⟨w.heap.size, 0, none⟩), k.length, ?_, fun τ b hle hb => ⟨⟨_, hb, rfl⟩, whole hle hk⟩⟩
        unfold execOp
        rw [hop]
        refine run_v2 ?_
        simp only [Instr.box, newVar, newRow, hc]
        rfl
    · cases h
  | buildSlice t len parts =>
    rw [hop] at h
    simp only [evA] at h
    split at h
    · rename_i e hu
      split at h
      · rename_i z zs hz hzs
        obtain ⟨i, zv, k, hi, hzv, hzc, hzk⟩ := zeroV_is (σ := σ) hzs
        cases hb : Nat.blt 0 z && (Nat.beq zs.length z && Nat.ble (Nat.mul len z) 16777216) with
        | false => rw [hb] at h; cases h
        | true =>
          rw [hb, cond_true] at h
          simp only [Bool.and_eq_true, Nat.beq_eq, Nat.ble_eq] at hb
          obtain ⟨hz0, hzl, hle⟩ := hb
          have hz0 : 0 < z := by simpa using hz0
          have hkl : k.length = z := by rw [← isL_len hzk]; exact hzl
          split at h
          · rename_i l hl
            cases hn : noUn l with
            | false => rw [hn] at h; cases h
            | true =>
              rw [hn] at h; cases h
              obtain ⟨m, hm, hf⟩ := fillV_run G _ hl (repC_is hzk len)
              refine ⟨.cells m.toArray e (0, 0), .slice (some ⟨w.heap.size, 0, none⟩) len len, m.length, ?_, fun τ b hle hb => ⟨⟨Nat.le_refl _, _, hb, rfl⟩, whole hle hm⟩⟩
              unfold execOp
              rw [hop]
              refine run_v2 ?_
              unfold Instr.buildSlice
              rw [Sem.run_bind, run_underlying hu, Result.andThen_ok]
              simp only []
              rw [Sem.run_bind, sizeOf_run hz, Result.andThen_ok]
              have hle' : ¬ (len * z > 2 ^ 24) := by have : len * z ≤ 16777216 := hle; omega
              have hzero : (zeroValue e).run P w = .ok zv w := by simp [zeroValue, typeInfo, hi, hzv]
              rw [if_neg hle']
              have hparts : (parts.map fun (i, x) => (i, a.eval x)).toList = parts.toList.map fun x => (x.1, a.eval x.2) := by simp
              by_cases h0 : len * z = 0
              · have hl0 : len = 0 := by rcases Nat.mul_eq_zero.1 h0 with h | h; exact h; omega
                subst hl0
                simp only [Nat.zero_mul, if_true, Sem.run_bind, Sem.run_pure, Result.andThen_ok, hparts]
                have e0 : ((Array.range 0).map fun j => (#[] : Array Value)[j % (#[] : Array Value).size]!) = (madeCells k.toArray (0 * k.length)).toList.toArray := by simp [madeCells]
                rw [e0, hf]
                simp only [newRow, Sem.run_bind]
                rfl
              · rw [if_neg h0]
                simp only [Sem.run_bind, hzero, Sem.run_pure, Result.andThen_ok, hparts, hzc]
                have e0 : ((Array.range (len * z)).map fun j => k.toArray[j % k.toArray.size]!) = (madeCells k.toArray (len * k.length)).toList.toArray := by rw [hkl]; exact Array.ext' (by simp [madeCells])
                rw [e0, hf]
                simp only [newRow, Sem.run_bind]
                rfl
          · cases h
      · cases h
    · cases h
  | makeSlice t x y =>
    rw [hop] at h
    simp only [evA] at h
    split at h
    · rename_i e kx n ky c hu hx hy
      split at h
      · rename_i z zs i' hz hzs hi'
        obtain ⟨i, zv, k, hi, hzv, hzc, hzk⟩ := zeroV_is (σ := σ) hzs
        rw [hi'] at hi; cases hi
        cases hb : Nat.blt 0 z && (Nat.beq zs.length z && (Nat.ble n c && (Nat.ble c 1000000 && Nat.ble i'.bytes 1000000))) with
        | false => rw [hb] at h; cases h
        | true =>
          rw [hb, cond_true] at h
          simp only [Bool.and_eq_true, Nat.beq_eq, Nat.ble_eq] at hb
          obtain ⟨_, hzl, hnc, hc, hby⟩ := hb
          cases h
          have hkl : k.length = z := by rw [← isL_len hzk]; exact hzl
          have hsz : i'.size = z := by unfold sizeB at hz; rw [hi'] at hz; exact Option.some.inj hz
          refine ⟨.cells (madeCells zv.cells (c * i'.size)) e (0, 0), .slice (some ⟨w.heap.size, 0, none⟩) n c, (madeCells zv.cells (c * i'.size)).toList.length, ?_, fun τ b hle hb => ⟨⟨hnc, _, hb, rfl⟩, ?_⟩⟩
          · unfold execOp
            rw [hop]
            refine run_v2 ?_
            have hx' : a.eval x = .int kx (n : Nat) := opC_is G hx
            have hy' : a.eval y = .int ky (c : Nat) := opC_is G hy
            rw [hx', hy']
            have hbb : (i'.bytes : Int) * (c : Nat) ≤ 281474976710656 := by
              have : i'.bytes * c ≤ 1000000 * 1000000 := Nat.mul_le_mul hby hc
              have h2 : ((i'.bytes * c : Nat) : Int) ≤ 1000000000000 := by omega
              rw [Int.natCast_mul] at h2
              omega
            have := Go.run_make (P := P) w t e i' zv hu hi' hzv kx ky (n : Nat) (c : Nat) (by omega) (by omega) hbb (by omega)
            simpa using this
          · have := whole (t := e) (n := w.heap.size) hle (repC_is hzk c)
            rw [hsz, ← hkl, hzc]
            simpa using this
      · cases h
    · cases h
  | makeMap t r =>
    rw [hop] at h
    cases r with
    | some _ => cases h
    | none =>
      simp only [evA] at h
      cases h
      refine ⟨.map #[] 0, .map (some w.heap.size), 0, ?_, fun τ b hle hb => ⟨⟨_, hb, rfl⟩, ⟨_, _, rfl⟩⟩⟩
      unfold execOp
      rw [hop]
      refine run_v2 ?_
      rfl
  | _ => rw [hop] at h; cases h
end
end Go.Proofs.YtcfopechdlgioaaGreatDoor
