/- The reckoner, part C: operations that look at no memory. -/
import Derived.Test.YtcfopechdlgioaaGreatDoorEvB
import Derived.Test.YtcfopechdlgioaaGreatDoorEngE
namespace Go.Proofs.YtcfopechdlgioaaGreatDoor
open Go.RowKit
section
variable {σ τ : Sg} {P : Program} {w : World}
theorem adrV_run {t : TypeId} {x i : CV} {e : EV} {u v : Value} (h : adrV P t x i = some e) (hx : x.is σ u) (hi : i.is σ v) : ∃ r, e.is σ r ∧ (Instr.indexAt t u v).run P w = .ok r w := by
  unfold adrV at h
  split at h
  · rename_i k n
    cases hi
    split at h
    · rename_i e b o len c hu
      obtain ⟨_, r, hr, rfl⟩ := hx
      split at h
      · rename_i z j hz hj
        obtain ⟨rfl, hlt⟩ := idxOf_some hj
        rw [fN_eq] at h; cases h
        refine ⟨_, ⟨r, hr, rfl⟩, ?_⟩
        unfold Instr.indexAt
        have h1 : (0 : Int) ≤ j := by omega
        have h2 : (j : Int) < (len : Nat) := by omega
        simp only [asIntOf, Sem.run_bind, Sem.run_pure, Result.andThen_ok, run_underlying hu, h1, h2, and_self, if_true, sizeOf_run hz, addr_add, Int.toNat_natCast]
        rfl
      · cases h
    · rename_i e b e0 z0 len hu
      obtain ⟨r, c, hr, _, _, _, rfl⟩ := hx
      split at h
      · rename_i z j hz hj
        obtain ⟨rfl, hlt⟩ := idxOf_some hj
        cases hzz : Nat.beq z z0 with
        | false => rw [hzz] at h; cases h
        | true =>
          have : z = z0 := Nat.eq_of_beq_eq_true hzz
          subst this
          rw [hzz, cond_true, fN_eq] at h; cases h
          refine ⟨_, ⟨r, hr, rfl⟩, ?_⟩
          unfold Instr.indexAt
          have h1 : (0 : Int) ≤ j := by omega
          have h2 : (j : Int) < (len : Nat) := by omega
          simp only [asIntOf, Sem.run_bind, Sem.run_pure, Result.andThen_ok, run_underlying hu, h1, h2, and_self, if_true, sizeOf_run hz, addr_add, Int.toNat_natCast]
          rw [show e0 * z + j * z = Nat.mul (Nat.add e0 j) z from (Nat.add_mul _ _ _).symm]
      · cases h
    · rename_i len e b o hu
      obtain ⟨r, hr, rfl⟩ := hx
      split at h
      · rename_i z j hz hj
        obtain ⟨rfl, hlt⟩ := idxOf_some hj
        rw [fN_eq] at h; cases h
        refine ⟨_, ⟨r, hr, rfl⟩, ?_⟩
        unfold Instr.indexAt
        have h1 : (0 : Int) ≤ j := by omega
        have h2 : (j : Int) < (len : Nat) := by omega
        simp only [asIntOf, Sem.run_bind, Sem.run_pure, Result.andThen_ok, run_underlying hu, Instr.sureAddr, h1, h2, and_self, if_true, sizeOf_run hz, addr_add, Int.toNat_natCast]
        rfl
      · cases h
    · cases h
  · cases h
def isO (σ : Sg) : Option CV → Option Value → Prop
  | none, none => True
  | some c, some v => c.is σ v
  | _, _ => False
theorem boundV_int {x : Option CV} {d n : Nat} {v : Option Value} (h : boundV x d = some n) (hx : isO σ x v) : (v = none ∧ n = d) ∨ ∃ k, v = some (.int k (n : Nat)) := by
  unfold boundV at h
  split at h
  · cases h
    cases v with
    | none => exact .inl ⟨rfl, rfl⟩
    | some v => exact hx.elim
  · rename_i k m
    cases h
    cases v with
    | none => exact hx.elim
    | some v => cases hx; exact .inr ⟨k, rfl⟩
  · cases h
theorem bounds_run {isS : Bool} {len cap l h m : Nat} {lo hi mx : Option CV} {vl vh vm : Option Value} (hl : isO σ lo vl) (hh : isO σ hi vh) (hm : isO σ mx vm) (h1 : boundV lo 0 = some l) (h2 : boundV hi len = some h) (h3 : boundV mx cap = some m)
    (hlh : l ≤ h) (hhm : h ≤ m) (hmc : m ≤ cap) (hmh : (mx.isNone || hi.isSome) = true) : (Instr.sliceBounds isS len cap vl vh vm).run P w = .ok (l, h, m) w := by
  have b : ∀ {n y : Nat} {k : IntKind} {code : BoundsCode}, n ≤ y → (Instr.sliceBound (.int k (n : Nat)) y code).run P w = .ok n w := fun {n y k code} hy => by
    have := run_sliceBound (P := P) w k n y code (by omega) (by omega)
    simpa using this
  unfold Instr.sliceBounds
  rcases boundV_int h3 hm with ⟨rfl, rfl⟩ | ⟨km, rfl⟩
  · rcases boundV_int h2 hh with ⟨rfl, rfl⟩ | ⟨kh, rfl⟩ <;> rcases boundV_int h1 hl with ⟨rfl, rfl⟩ | ⟨kl, rfl⟩ <;> simp [b, hlh, hhm]
  · rcases boundV_int h2 hh with ⟨rfl, rfl⟩ | ⟨kh, rfl⟩
    · exfalso
      cases mx with
      | none => exact hm.elim
      | some _ => cases hi with
        | none => cases hmh
        | some _ => exact hh.elim
    · rcases boundV_int h1 hl with ⟨rfl, rfl⟩ | ⟨kl, rfl⟩ <;> simp [b, hlh, hhm, hmc]
theorem boundV_none {x : Option CV} {d e n : Nat} (h : boundV x d = some n) : boundV x e = some (if x = none then e else n) := by
  unfold boundV at h ⊢
  split at h
  · rfl
  · cases h; rfl
  · cases h
theorem sliceV_run {t : TypeId} {x : CV} {lo hi mx : Option CV} {e : EV} {u : Value} {vl vh vm : Option Value} (h : sliceV P t x lo hi mx = some e) (hx : x.is σ u) (hl : isO σ lo vl) (hh : isO σ hi vh) (hm : isO σ mx vm) (hmh : (mx.isNone || hi.isSome) = true) :
    ∃ r, e.is σ r ∧ (Instr.sliceAt t u vl vh vm).run P w = .ok r w := by
  unfold sliceV at h
  split at h
  · rename_i l hu
    cases hx
    split at h
    · rename_i a b h1 h2
      cases vm with
      | some _ => exact hm.elim
      | none =>
        cases hc : Nat.ble a b && Nat.ble b l.length with
        | false => rw [hc] at h; cases h
        | true =>
          rw [hc, cond_true] at h
          simp only [Bool.and_eq_true, Nat.ble_eq] at hc
          split at h
          · rename_i r hr
            cases h
            rw [dropC_eq] at hr
            obtain ⟨_, rfl⟩ := takeC_some hr
            refine ⟨_, rfl, ?_⟩
            unfold Instr.sliceAt Instr.slice
            have := bounds_run (P := P) (w := w) (isS := false) (len := l.length) (cap := l.length) hl hh (show isO σ none none from trivial) h1 h2 rfl hc.1 hc.2 (Nat.le_refl _) rfl
            rw [Sem.run_bind, run_underlying hu, Result.andThen_ok]
            simp only [Sem.run_bind, run_underlying hu, Result.andThen_ok, Option.isSome_none, Bool.false_eq_true, if_false, B_size, List.length_map, this, B_extract, Sem.run_pure]
            congr 3
            rw [List.map_take, List.map_drop, List.drop_take]
            rfl
          · cases h
    · cases h
  · rename_i el b o n c hu
    obtain ⟨hnc, r, hr, rfl⟩ := hx
    split at h
    · rename_i z l hi' m hz h1 h2 h3
      cases hc : Nat.ble l hi' && (Nat.ble hi' m && Nat.ble m c) with
      | false => rw [hc] at h; cases h
      | true =>
        rw [hc, cond_true] at h
        simp only [Bool.and_eq_true, Nat.ble_eq] at hc
        have hb := bounds_run (P := P) (w := w) (isS := true) (len := n) (cap := c) hl hh hm h1 h2 h3 hc.1 hc.2.1 hc.2.2 hmh
        have key : (Instr.sliceAt t (.slice (some ⟨r.1, o, none⟩) n c) vl vh vm).run P w = .ok (.slice (if m = l then some ⟨r.1, o, none⟩ else some ⟨r.1, o + l * z, none⟩) (hi' - l) (m - l)) w := by
          unfold Instr.sliceAt Instr.slice
          rw [Sem.run_bind, run_underlying hu, Result.andThen_ok]
          simp only [Sem.run_bind, run_underlying hu, Result.andThen_ok, hb, sizeOf_run hz, Sem.run_pure, Option.map_some, addr_add]
        cases hml : Nat.beq m l with
        | true =>
          have : m = l := Nat.eq_of_beq_eq_true hml
          subst this
          rw [hml] at h; cases h
          refine ⟨_, ⟨Nat.le_refl _, r, hr, rfl⟩, ?_⟩
          rw [key, if_pos rfl, Nat.sub_self, show hi' - m = 0 by omega]
        | false =>
          have : m ≠ l := fun e => by rw [e, Nat.beq_refl] at hml; cases hml
          rw [hml] at h
          simp only [cond_false, fN_eq] at h; cases h
          refine ⟨_, ⟨Nat.sub_le_sub_right hc.2.1 _, r, hr, rfl⟩, ?_⟩
          rw [key, if_neg this]; rfl
    · cases h
  · rename_i el b e0 z0 n hu
    obtain ⟨r, c, hr, hrc, hen, hcm, rfl⟩ := hx
    split at h
    · rename_i z l hi' hz h1 h2
      cases hc : Nat.beq z z0 && (Nat.ble l hi' && Nat.ble hi' n) with
      | false => rw [hc] at h; cases h
      | true =>
        rw [hc, cond_true] at h
        simp only [Bool.and_eq_true, Nat.ble_eq, Nat.beq_eq] at hc
        obtain ⟨rfl, hc1, hc2⟩ := hc
        have key : ∀ {m : Nat}, boundV mx (c - e0) = some m → hi' ≤ m → m ≤ c - e0 → (Instr.sliceAt t (.slice (some ⟨r.1, e0 * z, none⟩) n (c - e0)) vl vh vm).run P w = .ok (.slice (if m = l then some ⟨r.1, e0 * z, none⟩ else some ⟨r.1, e0 * z + l * z, none⟩) (hi' - l) (m - l)) w := by
          intro m h3 h4 h5
          have hb := bounds_run (P := P) (w := w) (isS := true) (len := n) (cap := c - e0) hl hh hm h1 h2 h3 hc1 h4 h5 hmh
          unfold Instr.sliceAt Instr.slice
          rw [Sem.run_bind, run_underlying hu, Result.andThen_ok]
          simp only [Sem.run_bind, run_underlying hu, Result.andThen_ok, hb, sizeOf_run hz, Sem.run_pure, Option.map_some, addr_add]
        split at h
        · cases hq : Nat.beq l 0 || Nat.blt l n with
          | false => rw [hq] at h; cases h
          | true =>
            rw [hq] at h
            simp only [cond_true, fN_eq] at h; cases h
            simp only [Bool.or_eq_true, Nat.beq_eq] at hq
            refine ⟨_, ⟨r, c, hr, hrc, ?_, hcm, rfl⟩, ?_⟩
            · show e0 + l + (hi' - l) ≤ c; omega
            · rw [key rfl (by omega) (Nat.le_refl _)]
              have e1 : Nat.add e0 l * z = e0 * z + l * z := Nat.add_mul _ _ _
              rw [e1, show c - Nat.add e0 l = c - e0 - l from by show c - (e0 + l) = _; omega]
              split
              · rename_i he
                have : l = 0 := by
                  rcases hq with hq | hq
                  · exact hq
                  · have : l < n := by simpa using hq
                    omega
                subst this
                simp
              · rfl
        · rename_i y
          split at h
          · rename_i m hm3
            have h3 := boundV_none (e := c - e0) hm3
            rw [if_neg (by simp)] at h3
            cases hq : Nat.ble hi' m && Nat.ble m n with
            | false => rw [hq] at h; cases h
            | true =>
              rw [hq, cond_true] at h
              simp only [Bool.and_eq_true, Nat.ble_eq] at hq
              cases hml : Nat.beq m l with
              | true =>
                have : m = l := Nat.eq_of_beq_eq_true hml
                subst this
                rw [hml] at h
                simp only [cond_true, fN_eq] at h; cases h
                refine ⟨_, ⟨Nat.le_refl _, r, hr, rfl⟩, ?_⟩
                rw [key h3 hq.1 (by omega), if_pos rfl, Nat.sub_self, show hi' - m = 0 by omega]
                rfl
              | false =>
                have : m ≠ l := fun e => by rw [e, Nat.beq_refl] at hml; cases hml
                rw [hml] at h
                simp only [cond_false, fN_eq] at h; cases h
                refine ⟨_, ⟨Nat.sub_le_sub_right hq.1 _, r, hr, rfl⟩, ?_⟩
                rw [key h3 hq.1 (by omega), if_neg this]
                rw [show Nat.mul (Nat.add e0 l) z = e0 * z + l * z from Nat.add_mul _ _ _]; rfl
          · cases h
    · cases h
  · rename_i el hu
    cases hx
    split at h
    · rename_i h1 h2 h3 hzz
      cases h
      have hb := bounds_run (P := P) (w := w) (isS := true) (len := 0) (cap := 0) hl hh hm h1 h2 h3 (Nat.le_refl _) (Nat.le_refl _) (Nat.le_refl _) hmh
      refine ⟨_, rfl, ?_⟩
      unfold Instr.sliceAt Instr.slice
      rw [Sem.run_bind, run_underlying hu, Result.andThen_ok]
      simp only [Sem.run_bind, run_underlying hu, Result.andThen_ok, hb]
      obtain ⟨z, hz⟩ := Option.isSome_iff_exists.1 hzz
      simp [sizeOf_run hz]
    · cases h
  · rename_i len el b o hu
    obtain ⟨r, hr, rfl⟩ := hx
    split at h
    · rename_i z l hi' hz h1 h2
      cases vm with
      | some _ => exact hm.elim
      | none =>
        cases hc : Nat.ble l hi' && Nat.ble hi' len with
        | false => rw [hc] at h; cases h
        | true =>
          rw [hc, cond_true] at h
          simp only [Bool.and_eq_true, Nat.ble_eq] at hc
          have hb := bounds_run (P := P) (w := w) (isS := false) (len := len) (cap := len) hl hh (show isO σ none none from trivial) h1 h2 rfl hc.1 hc.2 (Nat.le_refl _) rfl
          have key : (Instr.sliceAt t (.pointer (some ⟨r.1, o, none⟩)) vl vh none).run P w = .ok (.slice (some (if len = l then ⟨r.1, o, none⟩ else ⟨r.1, o + l * z, none⟩)) (hi' - l) (len - l)) w := by
            unfold Instr.sliceAt
            rw [Sem.run_bind, run_underlying hu, Result.andThen_ok]
            simp only [Instr.sureAddr, Sem.run_bind, Result.andThen_ok, hb, sizeOf_run hz, Sem.run_pure, addr_add]
          cases hml : Nat.beq len l with
          | true =>
            have : len = l := Nat.eq_of_beq_eq_true hml
            subst this
            rw [hml] at h; cases h
            refine ⟨_, ⟨Nat.le_refl _, r, hr, rfl⟩, ?_⟩
            rw [key, if_pos rfl, Nat.sub_self, show hi' - len = 0 by omega]
          | false =>
            have : len ≠ l := fun e => by rw [e, Nat.beq_refl] at hml; cases hml
            rw [hml] at h
            simp only [cond_false, fN_eq] at h; cases h
            refine ⟨_, ⟨Nat.sub_le_sub_right hc.2 _, r, hr, rfl⟩, ?_⟩
            rw [key, if_neg this]; rfl
    · cases h
  · cases h
section
variable {N : Nat} {T : Tm} {a : Act}
theorem optC_is (H : TS σ N T a.tmps) {x : Option Operand} {r : Option CV} (h : optC T x = some r) : isO σ r (x.map a.eval) := by
  cases x with
  | none => cases h; trivial
  | some x =>
    simp only [optC] at h
    split at h
    · rename_i v hv; cases h; exact opC_is H hv
    · cases h
theorem fold_over (off : Nat) : ∀ (l : List Value) (j : Nat) (cs : List Value), off + j + l.length ≤ cs.length →
    (l.zipIdx j).foldl (fun (cs : Array Value) (x : Value × Nat) => cs.setIfInBounds (off + x.2) x.1) cs.toArray = (cs.take (off + j) ++ l ++ cs.drop (off + j + l.length)).toArray
  | [], j, cs, _ => by simp
  | y :: l, j, cs, h => by
    simp only [List.length_cons] at h
    have e1 : (cs.set (off + j) y).take (off + (j + 1)) = cs.take (off + j) ++ [y] := by
      rw [List.take_set, List.set_eq_take_append_cons_drop, if_pos (by simp; omega), List.take_take, Nat.min_eq_left (by omega), List.drop_eq_nil_of_le (by simp; omega)]
    have e2 : (cs.set (off + j) y).drop (off + (j + 1) + l.length) = cs.drop (off + j + (l.length + 1)) := by
      rw [List.drop_set_of_lt (by omega)]
      congr 1; omega
    rw [List.zipIdx_cons, List.foldl_cons, List.setIfInBounds_toArray, fold_over off l (j + 1) _ (by simp; omega), e1, e2]
    simp
/-- Filling in. -/
theorem fillV_run (H : TS σ N T a.tmps) (place : Nat → Option (Nat × Nat)) : ∀ {parts : List (Nat × Operand)} {cs out : List CV} {k : List Value}, fillV place T parts cs = some out → isL σ cs k →
    ∃ m, isL σ out m ∧ Instr.fill place k.toArray (parts.map fun x => (x.1, a.eval x.2)) = some m.toArray
  | [], cs, out, k, h, hk => by cases h; exact ⟨k, hk, rfl⟩
  | (i, x) :: rest, cs, out, k, h, hk => by
    rw [fillV] at h
    split at h
    · rename_i off size v hp hv
      cases hb : Nat.beq v.cells.length size with
      | false => rw [hb] at h; cases h
      | true =>
        have hsz : v.cells.length = size := Nat.eq_of_beq_eq_true hb
        rw [hb, cond_true] at h
        split at h
        · rename_i ds hds
          obtain ⟨hle, rfl⟩ := setC_some hds
          obtain ⟨vs, hvs, hcells⟩ := PV.cells_is (opP_is H hv)
          have hl1 := isL_len hvs
          have hl2 := isL_len hk
          obtain ⟨m, hm, hf⟩ := fillV_run H place h (k := k.take off ++ vs ++ k.drop (off + vs.length)) (isL_app (isL_app (isL_take _ hk) hvs) (by rw [hl1]; exact isL_drop _ hk))
          refine ⟨m, hm, ?_⟩
          rw [List.map_cons, Instr.fill]
          simp only [hp, hcells]
          rw [if_neg (by simp; omega)]
          rw [← hf]
          congr 1
          have := fold_over off vs 0 k (by omega)
          rw [← Array.foldl_toList]
          simpa using this
        · cases h
    · cases h
end
end
end Go.Proofs.YtcfopechdlgioaaGreatDoor
