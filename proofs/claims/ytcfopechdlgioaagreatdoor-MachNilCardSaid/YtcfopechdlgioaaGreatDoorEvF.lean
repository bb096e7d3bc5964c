/- The reckoner, part F: operations that write memory. -/
import Derived.Test.YtcfopechdlgioaaGreatDoorEvE
namespace Go.Proofs.YtcfopechdlgioaaGreatDoor
open Go.RowKit
section
variable {P : Program} {w0 w w' : World} {σ τ : Sg} {H : Hm} {nx N : Nat} {T : Tm} {a : Act}
theorem putH_some {H : Hm} {b : Nat} {x : Option EB} {K : Hm → Option XR} {r : XR} (h : putH H b x K = some r) : ∃ L : Hm, (∀ c, L.get c = if c = b then x else H.get c) ∧ K L = some r := by
  unfold putH at h
  split at h
  · cases h
  · rename_i v l q hq
    refine ⟨_, fun c => ?_, h⟩
    rw [← hq]
    exact Tr.get_put x depthT b H c (by rw [hq]; simp)
/-- A block is forgotten. -/
theorem Sim.kill (S : Sim w0 σ H nx w) {b : Nat} {K : Hm} (hK : ∀ c, K.get c = if c = b then none else H.get c) : Sim w0 σ K nx w := by
  have key : ∀ {c x}, K.get c = some x → H.get c = some x := fun {c x} hc => by
    rw [hK] at hc
    split at hc
    · cases hc
    · exact hc
  refine ⟨S.bel, S.new, fun c x r hc hr => S.ok c x r (key hc) hr, fun c d r s hr hs hc hd e => S.inj c d r s hr hs ?_ ?_ e⟩
  · obtain ⟨x, hx⟩ := Option.ne_none_iff_exists'.1 hc; rw [key hx]; simp
  · obtain ⟨x, hx⟩ := Option.ne_none_iff_exists'.1 hd; rw [key hx]; simp
/-- A block that is forgotten may be turned. -/
theorem Sim.change (S : Sim w0 σ H nx w) {b : Nat} {x : EB} {r : Nat × Nat} {K : Hm} (hb : H.get b = some x) (hr : σ.r b = some r) (hK : ∀ c, K.get c = if c = b then none else H.get c)
    (hos : w'.os = w.os) (htp : w'.tape = w.tape) (hout : w'.output = w.output) (hsz : w'.heap.size = w.heap.size) (hoth : ∀ k, k ≠ r.1 → w'.heap[k]? = w.heap[k]?) : Sim w0 σ K nx w' := by
  have hrb := (S.ok b x r hb hr).1
  have S' := S.kill hK
  refine ⟨⟨hos.trans S.bel.os, htp.trans S.bel.tape, hout.trans S.bel.output, by rw [hsz]; exact S.bel.size, fun k hk => (hoth k (by omega)).trans (S.bel.block k hk)⟩, S.new, fun c y s hc hs => ?_, S'.inj⟩
  obtain ⟨h1, h2⟩ := S'.ok c y s hc hs
  refine ⟨h1, ?_⟩
  rw [hK] at hc
  split at hc
  · cases hc
  · rename_i hcb
    rw [hoth _ fun e => hcb (S.inj c b s r hs hr (by rw [hc]; simp) (by rw [hb]; simp) e)]
    exact h2
theorem ExtS.set (S : Sim w0 σ H nx w) (r : Nat × Nat) : ExtS nx σ (σ.set nx r) := ⟨fun b hb => Sg.set_other _ _ (by omega), rfl⟩
/-- Bytes, as cells. -/
theorem bytes_is : ∀ l : List Nat, isL σ (l.map fun c => CV.i .u8 (.ofNat (Nat.mod c 256))) ((l.map UInt8.ofNat).map fun c => Value.int .u8 (c.toNat : Nat))
  | [] => .nil
  | c :: l => by
    refine .cons ?_ (bytes_is l)
    show Value.int .u8 _ = Value.int .u8 _
    simp only [UInt8.toNat_ofNat']
    rfl
theorem srcV_is (S : Sim w0 σ H nx w) {z : Nat} {t : TypeId} {x : CV} {u : Value} {ys : List CV} {m : Nat} (h : srcV P H z t x = some (ys, m)) (hx : x.is σ u) (hn : noUn ys = true) :
    ∃ k, isL σ ys k ∧ Go.Src P z t u m k w := by
  have slice : ∀ {x : CV} {u : Value} {l : List CV} {m : Nat} {e : TypeId}, P.underlying t = some (.slice e) → cellsC H z x = some l → x.is σ u → noUn l = true → (∀ ad n c, u = .slice ad n c → n = m) → ∃ k, isL σ l k ∧ Go.Src P z t u m k w := by
    intro x u l m e hu hl hx hn hm
    obtain ⟨ad, n, c, k, rfl, hnc, hk, hlen, had⟩ := cellsC_is S hl hx
    have := hm _ _ _ rfl
    subst this
    refine ⟨k, hk, ?_⟩
    rcases had with ⟨rfl, rfl⟩ | ⟨g, o, rfl, hc⟩
    · have : k = [] := List.eq_nil_of_length_eq_zero (by rw [hlen, Nat.zero_mul])
      subst this
      exact Go.Src.ofNil w hu c
    · exact Go.Src.ofSlice w hu _ _ _ _ hlen (fun j v hj => by rw [addr_add]; exact hc j v hj) (noUn_one hk hn)
  unfold srcV at h
  split at h
  · rename_i l
    cases hx
    split at h
    · rename_i hu
      cases hz : Nat.beq z 1 with
      | false => rw [hz] at h; cases h
      | true =>
        have : z = 1 := Nat.eq_of_beq_eq_true hz
        subst this
        rw [hz] at h; cases h
        have := Go.Src.ofString (P := P) w hu (B (l.map UInt8.ofNat))
        rw [B_size, List.length_map] at this
        exact ⟨_, bytes_is l, this⟩
    · cases h
  · rename_i b o n c
    split at h
    · rename_i e l hu hl
      cases h
      refine slice hu hl hx hn fun ad n' c' e => ?_
      obtain ⟨_, r, _, rfl⟩ := hx
      cases e; rfl
    · cases h
  · rename_i b e0 z0 n
    split at h
    · rename_i e l hu hl
      cases h
      refine slice hu hl hx hn fun ad n' c' e => ?_
      obtain ⟨r, c, _, _, _, _, rfl⟩ := hx
      cases e; rfl
    · cases h
  · split at h
    · rename_i e hu
      cases h
      cases hx
      exact ⟨[], .nil, Go.Src.ofNil w hu 0⟩
    · cases h
  · cases h
theorem setCells_at (b : Nat) (ty : TypeId) (fz : Nat × Nat) : ∀ (vs : List Value) (o : Nat) (w : World) (cs : List Value), w.heap[b]? = some (.cells cs.toArray ty fz) → o + vs.length ≤ cs.length →
    (w.setCells b o vs).heap[b]? = some (.cells (cs.take o ++ vs ++ cs.drop (o + vs.length)).toArray ty fz) ∧ (∀ k, k ≠ b → (w.setCells b o vs).heap[k]? = w.heap[k]?) ∧ (w.setCells b o vs).os = w.os ∧ (w.setCells b o vs).tape = w.tape ∧ (w.setCells b o vs).output = w.output ∧ (w.setCells b o vs).heap.size = w.heap.size
  | [], o, w, cs, h, _ => by simp [World.setCells, h]
  | v :: vs, o, w, cs, h, hle => by
    simp only [List.length_cons] at hle
    have h1 : (w.setCell ⟨b, o, none⟩ v).heap[b]? = some (.cells (cs.set o v).toArray ty fz) := by
      simp only [World.setCell, Array.getElem?_modify, if_true, h]
      simp
    obtain ⟨g1, g2, g3, g4, g5, g6⟩ := setCells_at b ty fz vs (o + 1) _ _ h1 (by simp; omega)
    have e1 : (cs.set o v).take (o + 1) = cs.take o ++ [v] := by
      rw [List.take_set, List.set_eq_take_append_cons_drop, if_pos (by simp; omega), List.take_take, Nat.min_eq_left (by omega), List.drop_eq_nil_of_le (by simp; omega)]
    have e2 : (cs.set o v).drop (o + 1 + vs.length) = cs.drop (o + (vs.length + 1)) := by
      rw [List.drop_set_of_lt (by omega)]
      congr 1; omega
    rw [e1, e2] at g1
    refine ⟨?_, fun k hk => ?_, g3, g4, g5, ?_⟩
    · rw [World.setCells, g1]; simp
    · rw [World.setCells, g2 k hk]
      exact Below.heap_setCell _ _ _ _ hk
    · rw [World.setCells, g6]; simp [World.setCell]
/-- A row of cells, with what is written over it. -/
theorem ok_set {cs ds ys : List CV} {k : List Value} {ty : TypeId} {r : Nat × Nat} {xs : List Value} {o : Nat} (hl : xs.length = r.2) (hle : cs.length ≤ xs.length) (hcs : isL σ cs (xs.take cs.length)) (hk : isL σ ys k) (hs : setC o ys cs = some ds) {O : Option Obj}
    (hO : O = some (.cells (xs.take o ++ k ++ xs.drop (o + k.length)).toArray ty (0, 0))) : (EB.c ds ty).ok σ r O := by
  obtain ⟨h1, rfl⟩ := setC_some hs
  have hlk := isL_len hk
  have hd : (cs.take o ++ ys ++ cs.drop (o + ys.length)).length = cs.length := by simp; omega
  refine ⟨_, hO, by simp; omega, by rw [hd]; simp; omega, ?_⟩
  rw [hd]
  have e : (xs.take o ++ k ++ xs.drop (o + k.length)).take cs.length = (xs.take cs.length).take o ++ k ++ (xs.take cs.length).drop (o + ys.length) := by
    rw [List.take_take, Nat.min_eq_left (by omega)]
    rw [List.take_append, List.take_of_length_le (by simp; omega)]
    congr 1
    rw [List.drop_take, ← hlk]
    congr 1
    simp
    omega
  rw [e]
  exact isL_app (isL_app (isL_take _ hcs) hk) (isL_drop _ hcs)
section
variable {t tx e : TypeId} {i : TypeInfo} {z0 : Value} {x u : Value} {m : Nat} {ys : List CV} {k : List Value}
/-- An append that makes a new block. -/
theorem moved_run (S : Sim w0 σ H nx w) (ht : P.underlying t = some (.slice e)) (hi : P.info? e = some i) (hz : i.zero = some z0) (hzs : z0.cells.size = i.size) (hby : i.bytes ≤ 1000000) (hs : Go.Src P i.size tx x m k w) (hk : isL σ ys k)
    {ad : Option Addr} {n c : Nat} {xs : List CV} {olds : List Value} (hxs : isL σ xs olds) (hol : olds.length = n * i.size) (hold : (Builtin.firstCells i.size n (.slice ad n c)).run P w.drew = .ok olds.toArray w.drew) (hg : c < n + m) (hle : n + m ≤ 10000000) (ty : TypeId)
    {K : Hm} (hK : ∀ c, K.get c = if c = nx then some (.c (app xs ys) e) else H.get c) :
    ∃ v w' τ, (Builtin.append_ #[t, tx] ty #[.slice ad n c, x]).run P w = .ok v w' ∧ ExtS nx σ τ ∧ Sim w0 τ K (nx + 1) w' ∧ (CV.su nx 0 i.size (n + m)).is τ v := by
  have hb : (n + m) * i.bytes ≤ 10000000 * 1000000 := Nat.mul_le_mul hle hby
  have hrun := run_append_grow_src (P := P) w t tx ty e i z0 ht hi hz ad n c olds hold x m k hs hg (by omega) (growslice_fits hg (by omega))
  have hcap := grownCap_ge w (n + m) c e
  have hmax := grownCap_le_maxLen w (n + m) c e (by simp only [maxLen]; omega)
  generalize grownCap w (n + m) c e = cap at hrun hcap hmax
  have hS := S.drew
  have hnew := S.new nx (Nat.le_refl _)
  have hlk := hs.newsLen
  have hla := isL_len (isL_app hxs hk)
  have hlen : ((olds ++ k).toArray ++ Builtin.zeroCells z0.cells (cap - (n + m))).size = cap * i.size := by
    simp only [Array.size_append, List.size_toArray, List.length_append, size_zeroCells, hzs, hol, hlk, ← Nat.add_mul]
    congr 1
    omega
  refine ⟨_, _, σ.set nx (w.heap.size, cap * i.size), hrun, ExtS.set S _, ?_, ⟨_, cap, Sg.set_same _ _ _, rfl, by omega, hmax, by simp⟩⟩
  refine hS.alloc (b := nx) (x := .c (app xs ys) e) hnew (Nat.le_succ _) (by omega) (by rw [hK, if_pos rfl]) (fun c hc => by rw [hK, if_neg hc]) ?_
  refine ⟨((olds ++ k).toArray ++ Builtin.zeroCells z0.cells (cap - (n + m))).toList, by simp, by rw [Array.length_toList, hlen], ?_, ?_⟩
  · rw [app_eq, hla]; simp
  · rw [app_eq, hla, Array.toList_append, List.take_left' (by simp)]
    exact isL_le (Sg.set_le hnew) (isL_app hxs hk)
theorem appV_run (S : Sim w0 σ H nx w) (ht : P.underlying t = some (.slice e)) (hi : P.info? e = some i) (hz : i.zero = some z0) (hzs : z0.cells.size = i.size) (hi0 : 0 < i.size) (hby : i.bytes ≤ 1000000) (hm : m ≤ 1000000) (hs : Go.Src P i.size tx x m k w) (hk : isL σ ys k)
    {s : CV} (hu : s.is σ u) {r : EV} {K : Hm} {ny : Nat} (h : appV H nx e i.size s ys m = some (.w r K ny)) (ty : TypeId) :
    ∃ v w' τ, (Builtin.append_ #[t, tx] ty #[u, x]).run P w = .ok v w' ∧ ExtS nx σ τ ∧ Sim w0 τ K ny w' ∧ r.is τ v ∧ nx ≤ ny := by
  have nothing : ∀ {ad : Option Addr} {n c : Nat}, n ≤ c → m = 0 → (Builtin.append_ #[t, tx] ty #[.slice ad n c, x]).run P w = .ok (.slice ad n c) w := by
    intro ad n c hnc hm0
    subst hm0
    have hk0 : k = [] := List.eq_nil_of_length_eq_zero (by rw [hs.newsLen, Nat.zero_mul])
    subst hk0
    exact run_append_nothing w t tx ty e i ht hi ad n c hnc x hs
  unfold appV at h
  split at h
  · cases hu
    cases hm0 : Nat.beq m 0 with
    | true =>
      rw [hm0] at h; cases h
      exact ⟨_, w, σ, nothing (Nat.le_refl _) (Nat.eq_of_beq_eq_true hm0), ExtS.refl _ _, S, rfl, Nat.le_refl _⟩
    | false =>
      have hmp : m ≠ 0 := fun e => by rw [e] at hm0; cases hm0
      rw [hm0, cond_false] at h
      obtain ⟨L, hL, h⟩ := putH_some h
      cases h
      obtain ⟨v, w', τ, h1, h2, h3, h4⟩ := moved_run (xs := []) (olds := []) (ad := none) (n := 0) (c := 0) S ht hi hz hzs hby hs hk .nil (by simp) (run_firstCells_none w.drew i.size 0 0 0) (by omega) (by omega) ty hL
      rw [Nat.zero_add] at h4
      exact ⟨v, w', τ, h1, h2, h3, h4, Nat.le_succ _⟩
  · rename_i b o n c
    obtain ⟨hnc, r, hr, rfl⟩ := hu
    cases hm0 : Nat.beq m 0 with
    | true =>
      rw [hm0] at h; cases h
      exact ⟨_, w, σ, nothing hnc (Nat.eq_of_beq_eq_true hm0), ExtS.refl _ _, S, ⟨hnc, r, hr, rfl⟩, Nat.le_refl _⟩
    | false =>
      have hmp : m ≠ 0 := fun e => by rw [e] at hm0; cases hm0
      rw [hm0, cond_false] at h
      cases hle : Nat.ble (Nat.add n m) 10000000 with
      | false => rw [hle] at h; cases h
      | true =>
        have hle' : n + m ≤ 10000000 := Nat.le_of_ble_eq_true hle
        rw [hle, cond_true] at h
        cases hc : Nat.ble (Nat.add n m) c with
        | true =>
          have hc' : n + m ≤ c := Nat.le_of_ble_eq_true hc
          rw [hc, cond_true] at h
          split at h
          · rename_i cs ty' hb
            split at h
            · rename_i ds hds
              obtain ⟨L, hL, h⟩ := putH_some h
              rw [fN_eq] at h; cases h
              obtain ⟨_, xs, h1, h2, h3, h4⟩ := S.ok b _ r hb hr
              have hset := (setC_some hds).1
              have hlk := isL_len hk
              have hset' : o + n * i.size + k.length ≤ xs.length := by rw [← hlk]; exact Nat.le_trans hset h3
              have hrun := run_append_room_src (P := P) w t tx ty e i ht hi r.1 o n c x m k hs hc' (fun j hj => by rw [cell_row h1, List.getElem?_eq_getElem (by omega)]; rfl) (fun j hj => by unfold World.frozen?; rw [h1]; simp)
              obtain ⟨g1, g2, g3, g4, g5, g6⟩ := setCells_at r.1 ty' (0, 0) k (o + n * i.size) w xs h1 hset'
              refine ⟨_, _, σ, hrun, ExtS.refl _ _, ?_, ⟨hc', r, hr, rfl⟩, Nat.le_refl _⟩
              exact S.write (y := .c ds ty') hb hr (by rw [hL, if_pos rfl]) (fun c hc => by rw [hL, if_neg hc]) g3 g4 g5 g6 g2 (ok_set (o := o + n * i.size) h2 h3 h4 hk hds g1)
            · cases h
          · cases h
        | false =>
          have hc' : c < n + m := by
            have : ¬ n + m ≤ c := fun e => by rw [show Nat.ble (Nat.add n m) c = true from Nat.ble_eq_true_of_le e] at hc; cases hc
            omega
          rw [hc, cond_false] at h
          split at h
          · rename_i xs hxs
            rw [fN_eq] at h
            obtain ⟨L, hL, h⟩ := putH_some h
            cases h
            obtain ⟨ad, n', c', q, e1, _, hq, hql, had⟩ := cellsC_is S hxs (show (CV.sl b o n c).is σ _ from ⟨hnc, r, hr, rfl⟩)
            cases e1
            have hold : (Builtin.firstCells i.size n (.slice (some ⟨r.1, o, none⟩) n c)).run P w.drew = .ok q.toArray w.drew := by
              rcases had with ⟨h0, _⟩ | ⟨g, o', h0, hcell⟩
              · cases h0
              · cases h0
                exact run_firstCells_some w.drew i.size n _ n c q hql (fun j v hj => by rw [addr_add]; exact hcell j v hj)
            obtain ⟨v, w', τ, h1, h2, h3, h4⟩ := moved_run S ht hi hz hzs hby hs hk hq hql hold hc' hle' ty hL
            exact ⟨v, w', τ, h1, h2, h3, h4, Nat.le_succ _⟩
          · cases h
  · rename_i b z1 n
    obtain ⟨r, c, hr, hrc, hen, hcm, rfl⟩ := hu
    cases hzz : Nat.beq i.size z1 && Nat.ble (Nat.add n m) 10000000 with
    | false => rw [hzz] at h; cases h
    | true =>
      rw [hzz, cond_true] at h
      simp only [Bool.and_eq_true, Nat.beq_eq, Nat.ble_eq] at hzz
      obtain ⟨rfl, hle⟩ := hzz
      have hle' : n + m ≤ 10000000 := hle
      rw [Nat.zero_mul, Nat.sub_zero] at *
      rw [Nat.zero_add] at hen
      cases hm0 : Nat.beq m 0 with
      | true =>
        rw [hm0] at h; cases h
        exact ⟨_, w, σ, nothing hen (Nat.eq_of_beq_eq_true hm0), ExtS.refl _ _, S, ⟨r, c, hr, hrc, by omega, hcm, by simp⟩, Nat.le_refl _⟩
      | false =>
        have hmp : m ≠ 0 := fun e => by rw [e] at hm0; cases hm0
        rw [hm0, cond_false] at h
        split at h
        · rename_i cs ty' hb
          cases hte : Nat.beq ty' e with
          | false => rw [hte] at h; cases h
          | true =>
            have : ty' = e := Nat.eq_of_beq_eq_true hte
            subst this
            rw [hte, cond_true] at h
            split at h
            · rename_i xs hxs
              obtain ⟨hxl, rfl⟩ := takeC_some hxs
              obtain ⟨L, hL, h⟩ := putH_some h
              rw [fN_eq] at h
              obtain ⟨M, hM, h⟩ := putH_some h
              cases h
              obtain ⟨_, vs, h1, h2, h3, h4⟩ := S.ok b _ r hb hr
              have hlk := isL_len hk
              have hkl := hs.newsLen
              have hxl' : n * i.size ≤ cs.length := hxl
              have hvs : isL σ (cs.take (Nat.mul n i.size)) (vs.take (n * i.size)) := by
                have := isL_take (n * i.size) h4
                rw [List.take_take, Nat.min_eq_left hxl'] at this
                exact this
              have hvl : (vs.take (n * i.size)).length = n * i.size := by rw [List.length_take]; omega
              have hSk := S.kill (b := b) hL
              rcases Nat.lt_or_ge c (n + m) with hc' | hc'
              · have hold : (Builtin.firstCells i.size n (.slice (some ⟨r.1, 0, none⟩) n c)).run P w.drew = .ok (vs.take (n * i.size)).toArray w.drew := by
                  refine run_firstCells_some w.drew i.size n _ n c _ hvl (fun j v hj => ?_)
                  rw [addr_add, Nat.zero_add]
                  show w.cell? _ = _
                  rw [cell_row h1]
                  rw [List.getElem?_take] at hj
                  split at hj
                  · exact hj
                  · cases hj
                obtain ⟨v, w', τ, g1, g2, g3, g4⟩ := moved_run hSk ht hi hz hzs hby hs hk hvs hvl hold hc' hle' ty hM
                exact ⟨v, w', τ, g1, g2, g3, g4, Nat.le_succ _⟩
              · have hfit : 0 + n * i.size + k.length ≤ vs.length := by
                  rw [Nat.zero_add, hkl, h2, hrc, ← Nat.add_mul]
                  exact Nat.mul_le_mul_right _ hc'
                have hrun := run_append_room_src (P := P) w t tx ty ty' i ht hi r.1 0 n c x m k hs hc' (fun j hj => by rw [cell_row h1, List.getElem?_eq_getElem (by omega)]; rfl) (fun j hj => by unfold World.frozen?; rw [h1]; simp)
                obtain ⟨g1, g2, g3, g4, g5, g6⟩ := setCells_at r.1 ty' (0, 0) k (0 + n * i.size) w vs h1 hfit
                have hnew := S.new nx (Nat.le_refl _)
                have le := Sg.set_le (σ := σ) (r := r) hnew
                have hrb := (S.ok b _ r hb hr).1
                refine ⟨_, _, σ.set nx r, hrun, ExtS.set S _, ⟨⟨g3.trans S.bel.os, g4.trans S.bel.tape, g5.trans S.bel.output, by rw [g6]; exact S.bel.size, fun q hq => (g2 q (by omega)).trans (S.bel.block q hq)⟩, fun d hd => ?_, fun d y s hd hs' => ?_, fun d f s s' hs1 hs2 hd hf e => ?_⟩, ⟨r, c, Sg.set_same _ _ _, hrc, by show 0 + (n + m) ≤ c; omega, hcm, by simp⟩, Nat.le_succ _⟩
                · rw [Sg.set_other _ _ (by omega)]; exact S.new d (by omega)
                · rw [hM] at hd
                  split at hd
                  · rename_i e
                    subst e
                    rw [Sg.set_same] at hs'; cases hs'
                    cases hd
                    refine ⟨hrb, ?_⟩
                    have hla := isL_len (isL_app hvs hk)
                    refine ⟨_, g1, by simp; omega, ?_, ?_⟩
                    · rw [app_eq, hla]
                      simp only [Nat.zero_add, List.length_append]
                      omega
                    · rw [app_eq, hla]
                      simp only [Nat.zero_add]
                      rw [List.take_left' rfl]
                      exact isL_le le (isL_app hvs hk)
                  · rename_i e
                    rw [Sg.set_other _ _ e] at hs'
                    rw [hL] at hd
                    split at hd
                    · cases hd
                    · rename_i e2
                      obtain ⟨q1, q2⟩ := S.ok d y s hd hs'
                      refine ⟨q1, ?_⟩
                      rw [g2 _ fun e3 => e2 (S.inj d b s r hs' hr (by rw [hd]; simp) (by rw [hb]; simp) e3)]
                      exact EB.ok_le le q2
                · have key : ∀ {d s}, (σ.set nx r).r d = some s → K.get d ≠ none → (d = nx ∧ s = r) ∨ (d ≠ nx ∧ d ≠ b ∧ σ.r d = some s ∧ H.get d ≠ none) := fun {d s} h1 h2 => by
                    by_cases e : d = nx
                    · subst e
                      rw [Sg.set_same] at h1
                      exact .inl ⟨rfl, (Option.some.inj h1).symm⟩
                    · rw [Sg.set_other _ _ e] at h1
                      rw [hM, if_neg e, hL] at h2
                      by_cases e2 : d = b
                      · rw [if_pos e2] at h2; exact absurd rfl h2
                      · rw [if_neg e2] at h2; exact .inr ⟨e, e2, h1, h2⟩
                  rcases key hs1 hd with ⟨e1, rfl⟩ | ⟨_, q1, q2, q3⟩
                  · rcases key hs2 hf with ⟨e2, rfl⟩ | ⟨_, p1, p2, p3⟩
                    · rw [e1, e2]
                    · exact absurd (S.inj f b s' s p2 hr p3 (by rw [hb]; simp) e.symm) p1
                  · rcases key hs2 hf with ⟨e2, rfl⟩ | ⟨_, p1, p2, p3⟩
                    · exact absurd (S.inj d b s s' q2 hr q3 (by rw [hb]; simp) e) q1
                    · exact S.inj d f s s' q2 p2 q3 p3 e
            · cases h
        · cases h
  · cases h
end
/-- What an operation that writes does. -/
theorem evX_run (S : Sim w0 σ H nx w) (G : TS σ N T a.tmps) {o : Oper} {e : EV} {K : Hm} {ny : Nat} (h : evX P T H nx o.op = some (.w e K ny)) :
    ∃ v w' τ, ((execOp a.eval o).run P w = .ok (.value v) w' ∨ ((execOp a.eval o).run P w = .ok .skip w' ∧ v = undef)) ∧ ExtS nx σ τ ∧ Sim w0 τ K ny w' ∧ e.is τ v ∧ nx ≤ ny := by
  cases hop : o.op with
  | store t ad x =>
    rw [hop] at h
    simp only [evX] at h
    split at h
    · rename_i b off v n hb hv hn
      cases hc : Nat.beq v.cells.length n && noUn v.cells with
      | false => rw [hc] at h; cases h
      | true =>
        rw [hc, cond_true] at h
        simp only [Bool.and_eq_true, Nat.beq_eq] at hc
        split at h
        · rename_i cs ty hH
          split at h
          · rename_i ds hds
            obtain ⟨L, hL, h⟩ := putH_some h
            cases h
            obtain ⟨r, hr, had⟩ := opC_is G hb
            obtain ⟨k, hk, hcell⟩ := PV.cells_is (opP_is G hv)
            obtain ⟨_, xs, h1, h2, h3, h4⟩ := S.ok b _ r hH hr
            have hset := (setC_some hds).1
            have hlk := isL_len hk
            have hkn : k.length = n := by rw [← hlk]; exact hc.1
            have hrun := storek_run (P := P) (w := w) (t := t) (off := off) h1 hcell hn hkn (by omega) (noUn_one hk hc.2)
            have hrow := setRow_heap w r.1 xs.toArray (xs.take off ++ k ++ xs.drop (off + n)).toArray ty (0, 0) h1
            refine ⟨undef, w.setRow r.1 (xs.take off ++ k ++ xs.drop (off + n)).toArray, σ, .inr ⟨?_, rfl⟩, ExtS.refl _ _, S.write (y := .c ds ty) hH hr (by rw [hL, if_pos rfl]) (fun c hc => by rw [hL, if_neg hc]) rfl rfl rfl (by simp) (fun q hq => setRow_other _ _ _ _ hq) (ok_set (o := off) h2 h3 h4 hk hds (by rw [hkn]; exact hrow)), rfl, Nat.le_refl _⟩
            unfold execOp
            rw [hop]
            simp only
            rw [had, Sem.run_bind, hrun]
            rfl
          · cases h
        · cases h
    · cases h
  | call c =>
    obtain ⟨callee, args, ts⟩ := c
    rw [hop] at h
    unfold evX at h
    split at h <;> rename_i e' <;> first | (cases e'; done) | skip
    all_goals try (first | (rename_i e2; cases e2; done) | (cases h; done))
    · cases e'
      split at h <;> cases h
    · cases e'
      split at h
      · rename_i s x t u h1 h2
        split at h
        · rename_i cs cx el hs hx hu
          split at h
          · rename_i i hi
            cases hb : Nat.blt 0 i.size && Nat.ble i.bytes 1000000 with
            | false => rw [hb] at h; cases h
            | true =>
              rw [hb, cond_true] at h
              simp only [Bool.and_eq_true, Nat.ble_eq] at hb
              have hi0 : 0 < i.size := by simpa using hb.1
              split at h
              · rename_i z hz
                cases hzs : Nat.beq z.cells.size i.size with
                | false => rw [hzs] at h; cases h
                | true =>
                  rw [hzs, cond_true] at h
                  have hzs' := Nat.eq_of_beq_eq_true hzs
                  split at h
                  · rename_i ys m hys
                    cases hm : noUn ys && Nat.ble m 1000000 with
                    | false => rw [hm] at h; cases h
                    | true =>
                      rw [hm, cond_true] at h
                      simp only [Bool.and_eq_true, Nat.ble_eq] at hm
                      obtain ⟨k, hk, hsrc⟩ := srcV_is S hys (opC_is G hx) hm.1
                      obtain ⟨v, w', τ, g1, g2, g3, g4, g5⟩ := appV_run S hu hi hz hzs' hi0 hb.2 hm.2 hsrc hk (opC_is G hs) h o.type
                      refine ⟨v, w', τ, .inl ?_, g2, g3, g4, g5⟩
                      obtain ⟨bs, hbs⟩ := run_builtin (P := P) (w := w) (a := a) o hop
                      rw [hbs]
                      have e1 : args = #[s, x] := by apply Array.ext'; simpa using h1
                      have e2 : ts = #[t, u] := by apply Array.ext'; simpa using h2
                      subst e1 e2
                      rw [show Array.map a.eval #[s, x] = #[a.eval s, a.eval x] from Array.ext' (by simp)]
                      exact run_v2 g1
                  · cases h
              · cases h
          · cases h
        · cases h
      · cases h
    · cases e'
      split at h
      · rename_i x y pt it h1 h2
        have e1 : args = #[x, y] := by apply Array.ext'; simpa using h1
        have e2 : ts = #[pt, it] := by apply Array.ext'; simpa using h2
        subst e1 e2
        obtain ⟨bs, hbs⟩ := run_builtin (P := P) (w := w) (a := a) o hop
        have hargs : Array.map a.eval #[x, y] = #[a.eval x, a.eval y] := Array.ext' (by simp)
        split at h
        · rename_i hx hy
          cases h
          refine ⟨_, w, σ, .inl ?_, ExtS.refl _ _, S, rfl, Nat.le_refl _⟩
          rw [hbs, hargs, show a.eval x = .pointer none from opC_is G hx, show a.eval y = .int .i64 0 from opC_is G hy]
          exact run_v2 (Lib.run_unsafeString_none w _ _ _ _)
        · rename_i b off hx hy
          cases h
          obtain ⟨r, hr, hv⟩ := opC_is G hx
          refine ⟨_, w, σ, .inl ?_, ExtS.refl _ _, S, rfl, Nat.le_refl _⟩
          rw [hbs, hargs, hv, show a.eval y = .int .i64 0 from opC_is G hy]
          exact run_v2 (Lib.run_unsafeString_none w _ _ _ _)
        · rename_i b n e _ hx hy hpt
          obtain ⟨r, hr, hv⟩ := opC_is G hx
          split at h
          · rename_i cs t hb
            cases hc : Nat.beq t e && (Nat.beq (P.cellsOf e) 1 && Nat.ble n 1000000) with
            | false => rw [hc] at h; cases h
            | true =>
              rw [hc, cond_true] at h
              simp only [Bool.and_eq_true, Nat.beq_eq, Nat.ble_eq] at hc
              obtain ⟨rfl, hce, hn6⟩ := hc
              split at h
              · rename_i xs hxs
                split at h
                · rename_i l hl
                  obtain ⟨L, hL, h⟩ := putH_some h
                  cases h
                  obtain ⟨hle, rfl⟩ := takeC_some hxs
                  obtain ⟨_, vs, g1, g2, g3, g4⟩ := S.ok b _ r hb hr
                  have hk := isL_take n g4
                  rw [List.take_take, Nat.min_eq_left hle] at hk
                  obtain ⟨hlt, hvs⟩ := bytesOf_is hl hk
                  have hln : l.length = n := by
                    have := congrArg List.length hvs
                    rw [List.length_take, List.length_map] at this
                    omega
                  by_cases hn0 : n = 0
                  · subst hn0
                    have hl0 : l = [] := List.eq_nil_of_length_eq_zero hln
                    subst hl0
                    refine ⟨_, w, σ, .inl ?_, ExtS.refl _ _, S.kill hL, rfl, Nat.le_refl _⟩
                    rw [hbs, hargs, hv, show a.eval y = .int .i64 0 from opC_is G hy]
                    exact run_v2 (Lib.run_unsafeString_none w _ _ _ _)
                  · have hy' : a.eval y = .int .i64 (n : Nat) := opC_is G hy
                    have hrun := Lib.run_unsafeString_row (P := P) w pt it o.type t hpt hce r.1 vs.length (by simp [World.shape?, g1]) (l.map UInt8.ofNat) (by simp; intro e; subst e; exact hn0 (by simpa using hln.symm)) (by simp; omega) (by simp; omega) (fun j x hx => by
                      rw [addr_add, Nat.zero_add, cell_row g1]
                      have hj : j < l.length := by simpa using (List.getElem?_eq_some_iff.1 hx).1
                      have : (vs.take n)[j]? = some (Value.int .u8 (l[j] : Nat)) := by rw [hvs]; simp [hj]
                      rw [List.getElem?_take, if_pos (by omega)] at this
                      rw [this]
                      rw [List.getElem?_map, List.getElem?_eq_getElem hj] at hx
                      cases hx
                      congr 2
                      rw [UInt8.toNat_ofNat']
                      have := hlt _ (List.getElem_mem hj)
                      omega)
                    rw [List.length_map, hln] at hrun
                    refine ⟨_, _, σ, .inl ?_, ExtS.refl _ _, S.change (w' := w.freeze ⟨r.1, 0, none⟩ n) hb hr hL ?_ ?_ ?_ ?_ ?_, rfl, Nat.le_refl _⟩
                    · rw [hbs, hargs, hv, hy']
                      exact run_v2 hrun
                    · unfold World.freeze; split <;> rfl
                    · unfold World.freeze; split <;> rfl
                    · unfold World.freeze; split <;> rfl
                    · unfold World.freeze; split
                      · rfl
                      · simp
                    · intro q hq
                      unfold World.freeze; split
                      · rfl
                      · simp only [Array.getElem?_modify]
                        rw [if_neg (fun e => hq e.symm)]
                · cases h
              · cases h
          · cases h
        · cases h
      · cases h
  | _ => rw [hop] at h; cases h
end
end Go.Proofs.YtcfopechdlgioaaGreatDoor
