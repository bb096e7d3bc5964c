/- The reckoner, part J: statements that leave their order open: what is reckoned is so. -/
import Derived.Test.YtcfopechdlgioaaGreatDoorEvI
namespace Go.Proofs.YtcfopechdlgioaaGreatDoor
open Go.RowKit
section
variable {P : Program} {w0 : World} {N : Nat} {call : CallF} {T0 : Tm} {ops : Array Oper} {ix : List Ix} {dl : List (Nat × Nat × Nat)}
variable {nx0 nx : Nat} {σ0 σ τ : Sg} {p : Array Bool} {v : List (Nat × EV)} {lv : List (Nat × DK)} {H : Hm} {a : Act} {w : World}
theorem st_pass (I : IxOk ops ix dl N) (S : DSt P ix w0 N T0 ops dl nx0 σ0 σ p v lv H nx a w) {v' : List (Nat × EV)} {lv' : List (Nat × DK)} {H' : Hm} {nx' : Nat} (h : passD P T0 ops dl ix v lv H nx = some (v', lv', H', nx')) : DSt P ix w0 N T0 ops dl nx0 σ0 σ p v' lv' H' nx' a w := by
  obtain ⟨h1, h2, h3, h4, h5, h6, h7, h8⟩ := passD_some (ix := ix) (nx0 := nx0) I.nodup h (fun x hx => by
    obtain ⟨j, hj⟩ := List.getElem?_of_mem hx
    rw [(I.at' j x hj).1]; exact hj) S.base
  refine ⟨S.size, S.clo, fun i hi => ?_, fun i hi hn => ?_, S.sim.more h7 h5, Nat.le_trans S.base h5, S.ext, ⟨S.inv.size, fun k tt m hk hD e he => ?_, S.inv.old⟩, S.defers, fun i b x hx hn => ?_, fun i kd hk hn => ?_⟩
  · obtain ⟨e, he⟩ := Option.isSome_iff_exists.1 (S.dom i hi)
    rw [h1 i e he]; rfl
  · rcases h3 i hi with h | h
    · obtain ⟨kd, hk⟩ := S.live i h hn
      exact ⟨kd, h2 _ hk⟩
    · exact h
  · obtain ⟨e', he'⟩ := Option.isSome_iff_exists.1 (S.dom k hD)
    rw [h1 k e' he'] at he; cases he
    exact S.inv.done k tt m hk hD e he'
  · rcases h6 i b x hx with h | h
    · exact S.un i b x h hn
    · exact S.sim.new b h
  · rcases h8 i kd hk with h | h
    · exact (S.fact i kd h hn).mono h1 h4 h5
    · exact h
theorem draw_in (hC : CallOk P call) (I : IxOk ops ix dl N) {Q : Exit → Act → World → Prop} : ∀ (f : Nat) {v : List (Nat × EV)} {lv : List (Nat × DK)} {H : Hm} {nx : Nat} {T' : Tm} {K : Hm} {ny : Nat}, drawGo P call T0 ops ix dl f v lv H nx = some (T', K, ny) →
    (∀ τ a w, TS τ N T' a.tmps → a.defers = [] → ExtS nx0 σ0 τ → Sim w0 τ K ny w → nx0 ≤ ny → Q .normal a w) →
    ∀ (fuel : Nat) {σ : Sg} {p : Array Bool} {a : Act} {w : World}, DSt P ix w0 N T0 ops dl nx0 σ0 σ p v lv H nx a w → ((List.range ops.size).filter fun i => !p.getD i true).length ≤ fuel → wpAny P .any ops Q fuel p a w := by
  intro f
  induction f with
  | zero => intro v lv H nx T' K ny h; cases h
  | succ f ihf =>
    intro v0 lv0 H0 n0 T' K ny h hQ fuel σ p a w S0 hc0
    rw [drawGo] at h
    split at h
    · cases h
    rename_i v lv H nx hpass
    have S := st_pass I S0 hpass
    split at h
    · cases h
    rename_i hnd
    clear S0 hpass
    -- the end
    have fin : ∀ {σ p a w}, DSt P ix w0 N T0 ops dl nx0 σ0 σ p v lv H nx a w → (∀ i, i < ops.size → dn p i) → Q .normal a w := by
      intro σ p a w S hall
      cases hr : readyOf v ix with
      | cons x r =>
        exfalso
        have hx : x ∈ readyOf v ix := by rw [hr]; exact List.mem_cons_self
        rw [readyOf_mem] at hx
        obtain ⟨j, hj⟩ := List.getElem?_of_mem hx.1
        obtain ⟨e1, e2⟩ := I.at' j x hj
        have hd := S.dom x.1 (by rw [e1]; exact hall j (Array.getElem?_eq_some_iff.1 e2).1)
        rw [hx.2.1] at hd
        cases hd
      | nil =>
        rw [hr] at h
        simp only at h
        split at h
        · rename_i T hT
          cases h
          refine hQ σ a w ⟨S.inv.size, fun t e he => ?_⟩ S.defers S.ext S.sim S.base
          have lt : ∀ {k t mk}, (k, t, mk) ∈ dl → k < ops.size := fun {k t mk} hk => by
            obtain ⟨o, _, ho, _⟩ := I.dlm hk
            exact (Array.getElem?_eq_some_iff.1 ho).1
          rcases finT_get hT t e he with ⟨k, mk, h1, h3⟩ | ⟨h1, h2⟩
          · exact S.inv.done k t mk h1 (hall k (lt h1)) e h3
          · exact S.inv.old t e h1 fun k mk hk _ => h2 k mk hk
        · cases h
    induction fuel generalizing σ p a w with
    | zero =>
      have : Region.ready .any ops p = [] := by
        cases hr : Region.ready .any ops p with
        | nil => rfl
        | cons i r =>
          exfalso
          have hi : i ∈ Region.ready .any ops p := by rw [hr]; exact List.mem_cons_self
          obtain ⟨o, ho, hn, _⟩ := (ready_iff S.size).1 hi
          have hlt := (Array.getElem?_eq_some_iff.1 ho).1
          have hm : i ∈ (List.range ops.size).filter fun i => !p.getD i true := by
            rw [List.mem_filter, List.mem_range]
            refine ⟨hlt, ?_⟩
            unfold dn at hn
            rw [Array.getD_eq_getD_getElem?, Array.getElem?_eq_getElem (by rw [S.size]; exact hlt)] at hn ⊢
            simpa using hn
          have hl0 := List.length_eq_zero_iff.1 (Nat.le_zero.1 hc0)
          rw [hl0] at hm
          cases hm
      exact ⟨this, fin S (all_done I S.size this)⟩
    | succ fuel ih =>
      refine ⟨fun hr => fin S (all_done I S.size hr), fun i hi => ?_⟩
      obtain ⟨o, ho, hn, hd⟩ := (ready_iff S.size).1 hi
      have hlt := (Array.getElem?_eq_some_iff.1 ho).1
      have hps : i < p.size := by rw [S.size]; exact hlt
      obtain ⟨m, hm⟩ := I.get ho
      have hcount : ((List.range ops.size).filter fun j => !(p.setIfInBounds i true).getD j true).length ≤ fuel := by
        have := undone_lt p i ops.size hlt (by rw [S.size]; exact Nat.le_refl _) (by
          unfold dn at hn
          rw [Array.getD_eq_getD_getElem?, Array.getElem?_eq_getElem hps] at hn ⊢
          simpa using hn)
        omega
      unfold wpOp
      rw [ho]
      simp only
      cases hv : look v i with
      | some e =>
        obtain ⟨kd, hkd⟩ := S.live i (by rw [hv]; rfl) hn
        obtain ⟨o', m', e', T, hx, he', hT, hck⟩ := S.fact i kd hkd hn
        rw [hm] at hx
        cases hx
        rw [hv] at he'
        cases he'
        have next : ∀ {u w' τ}, σ.Le τ → e.is τ u → Sim w0 τ H nx w' → ExtS nx0 σ0 τ → (∀ k b x, (k, DK.a b x) ∈ lv → k ≠ i → ¬ dn p k → τ.r b = none) → wpAny P .any ops Q fuel (p.setIfInBounds i true) (a.put o.dst u) w' := fun {u w' τ} h1 h2 h3 h4 h5 =>
          ih hcount (st_step I S ho hn hd hv h1 h2 h3 h4 h5)
        have same : ∀ k b x, (k, DK.a b x) ∈ lv → k ≠ i → ¬ dn p k → σ.r b = none := fun k b x hk _ hnk => S.un k b x hk hnk
        have G := slots_for I S hm hn hd hT
        cases kd with
        | p =>
          rcases hck with ⟨hw, rfl⟩ | ⟨hw, he⟩
          · rw [if_neg (by rw [wantE_some hw G.get]; decide)]
            exact next (Sg.Le.refl _) rfl S.sim S.ext same
          · rw [if_pos (wantE_some hw G.get)]
            left
            obtain ⟨u, h1, h2⟩ := evP_run (P := P) (w := w) G he
            unfold Oper.wp
            rw [h2, Oper.upon_value]
            exact next (Sg.Le.refl _) h1 S.sim S.ext same
        | r =>
          obtain ⟨hw, he⟩ := hck
          rw [if_pos (wantE_some hw G.get)]
          left
          obtain ⟨u, h1, h2⟩ := evR_run (P := P) S.sim G he
          unfold Oper.wp
          rw [h2, Oper.upon_value]
          exact next (Sg.Le.refl _) h1 S.sim S.ext same
        | a b x =>
          obtain ⟨hw, mk, hx', rfl, hH, hb0, hbn⟩ := hck
          rw [if_pos (wantE_some hw G.get)]
          left
          obtain ⟨obj, u, k, hr, hk⟩ := evA_run (P := P) G hx' w
          have hun := S.un i b x hkd hn
          have hle := Sg.set_le (σ := σ) (r := (w.heap.size, k)) hun
          obtain ⟨h1, h2⟩ := hk (σ.set b (w.heap.size, k)) b hle (Sg.set_same _ _ _)
          unfold Oper.wp
          rw [hr, Oper.upon_value]
          refine next hle h1 (S.sim.alloc hun (Nat.le_refl _) hbn hH (fun _ _ => rfl) h2) ⟨fun c hc => ?_, ?_⟩ fun q c y hq hqi hnq => ?_
          · rw [Sg.set_other _ _ (by omega)]; exact S.ext.r c hc
          · exact S.ext.v
          · rw [Sg.set_other _ _ fun e => hqi ?_]
            · exact S.un q c y hq hnq
            · subst e
              exact nodupA_ne hnd q i c y x hq hkd
      | none =>
        have hrd : (i, o, m) ∈ readyOf v ix := by
          rw [readyOf_mem]
          refine ⟨List.mem_of_getElem? hm, hv, ?_⟩
          unfold ready1
          rw [List.all_eq_true]
          intro e he
          cases hb : Region.binds .any e with
          | false => rfl
          | true => simpa using S.dom e.on (hd e he hb)
        cases hr : readyOf v ix with
        | nil => rw [hr] at hrd; cases hrd
        | cons x r =>
          cases r with
          | cons y r => rw [hr] at h; cases h
          | nil =>
            rw [hr, List.mem_singleton] at hrd
            subst hrd
            rw [hr] at h
            simp only at h
            split at h
            · rename_i T hT
              split at h
              · rename_i hw
                split at h
                · rename_i e H2 n2 he
                  split at h
                  · rename_i hchk
                    have G := slots_for I S hm hn hd (tmpFor_get I.nodup hT)
                    rw [if_pos (wantE_some hw G.get)]
                    left
                    refine evC_wp hC S.sim G he fun u w' τ h1 h2 h3 h4 => ?_
                    refine ihf h hQ fuel (σ := τ) ?_ hcount
                    have hle := S.sim.le h2
                    have hself : look ((i, e) :: v) i = some e := by rw [look_cons, if_pos rfl]
                    have hoth : ∀ k, k ≠ i → look ((i, e) :: v) k = look v k := fun k hk => by rw [look_cons, if_neg (fun e => hk e.symm)]
                    have hext : ∀ k e', look v k = some e' → look ((i, e) :: v) k = some e' := fun k e' hk => by
                      rw [hoth k fun e => by rw [e, hv] at hk; cases hk]; exact hk
                    refine ⟨by simp [S.size], clo_step S ho hd, fun k hk => ?_, fun k hk hnk => ?_, h3, Nat.le_trans S.base h4, S.ext.trans h2 S.base, inv_step I S ho hn hself hoth hle h1, put_defers _ _ S.defers, fun k b x hk hnk => ?_, fun k kd hk hnk => ?_⟩
                    · rw [setp_dn hps] at hk
                      by_cases e : k = i
                      · rw [e, hself]; rfl
                      · rw [hoth k e]; exact S.dom k (hk.resolve_left e)
                    · obtain ⟨g1, g2⟩ := setp_un hn hnk hps
                      rw [hoth k g1] at hk
                      obtain ⟨kd, hkd⟩ := S.live k hk g2
                      refine ⟨kd, dropM_mem.2 ⟨hkd, ?_⟩⟩
                      cases hb : m.testBit k with
                      | false => rfl
                      | true =>
                        have := I.clo (fun q => q = i ∨ dn p q) (fun q o' ho' hq e' he' hb' => by
                          rcases hq with rfl | hq
                          · rw [ho] at ho'; cases ho'; exact .inr (hd e' he' hb')
                          · exact .inr (S.clo q o' ho' hq e' he' hb')) _ (List.mem_of_getElem? hm) (.inl rfl) k hb
                        exact absurd (this.resolve_left g1) g2
                    · obtain ⟨g1, g2⟩ := setp_un hn hnk hps
                      have hk' := (dropM_mem.1 hk).1
                      obtain ⟨_, _, _, _, _, _, _, _, _, _, _, _, _, hbn⟩ := S.fact k _ hk' g2
                      rw [h2.r b hbn]; exact S.un k b x hk' g2
                    · obtain ⟨g1, g2⟩ := setp_un hn hnk hps
                      have hk' := (dropM_mem.1 hk).1
                      obtain ⟨o2, m2, e2, T2, f1, f2, f3, f4⟩ := S.fact k kd hk' g2
                      obtain ⟨j, o3, m3, hx3, hck⟩ := chkAll_mem hchk k kd hk
                      rw [f1] at hx3
                      cases hx3
                      cases kd with
                      | p => exact ⟨o2, m2, e2, T2, f1, hext k e2 f2, f3.mono hext, f4⟩
                      | r =>
                        simp only [chk1] at hck
                        split at hck
                        · rename_i e4 T4 he4 hT4
                          split at hck
                          · rename_i hw4
                            split at hck
                            · rename_i e5 he5
                              have := of_decide_eq_true hck
                              subst this
                              exact ⟨o2, m2, _, T4, f1, he4, tmpFor_get I.nodup hT4, hw4, he5⟩
                            · cases hck
                          · cases hck
                        · cases hck
                      | a b x =>
                        obtain ⟨q1, mk, q2, q3, q4, q5, q6⟩ := f4
                        refine ⟨o2, m2, e2, T2, f1, hext k e2 f2, f3.mono hext, q1, mk, q2, q3, ?_, q5, by omega⟩
                        simp only [chk1] at hck
                        split at hck
                        · rename_i y hy
                          rw [← of_decide_eq_true hck]; exact hy
                        · cases hck
                  · cases h
                · cases h
              · cases h
            · cases h
theorem runDraw_sound (hm : P.follows .mixedOrders = true) (hC : CallOk P call) {id : Nat} {T : Tm} {T' : Tm} {K : Hm} {ny : Nat} (h : runDraw P call N ops T H nx = some (T', K, ny)) {Q : Exit → Act → World → Prop} (G : TS σ N T a.tmps) (hd : a.defers = []) (S : Sim w0 σ H nx w)
    (hQ : ∀ τ a w, TS τ N T' a.tmps → a.defers = [] → ExtS nx σ τ → Sim w0 τ K ny w → nx ≤ ny → Q .normal a w) : (Code.region id ops true).wp P Q a w := by
  unfold runDraw at h
  split at h
  · cases h
  · rename_i ix hix
    dsimp only at h
    split at h
    · rename_i hc
      rw [Bool.and_eq_true, List.all_eq_true] at hc
      obtain ⟨h1, h2⟩ := mkIx_at hix
      have I : IxOk ops ix (dstsOf ix) N := by
        refine ⟨by rw [h1, Array.length_toList], fun j x hj => ?_, fun D hD x hx hxD => ?_, fun x hx e he hb => ?_, mkIx_lt hix rfl (fun j m hj => by simp at hj), rfl, hc.1, fun x hx => by simpa using hc.2 x hx⟩
        · obtain ⟨g1, g2⟩ := h2 j x hj
          exact ⟨by omega, by simpa using g2⟩
        · exact (mkIx_clo D hix rfl (fun j m hj => by simp at hj) (fun j o hj hDj => hD j o (by simpa using hj) (by simpa using hDj)) x hx).1 hxD
        · exact (mkIx_clo (fun _ => True) hix rfl (fun j m hj => by simp at hj) (fun _ _ _ _ _ _ _ => trivial) x hx).2 e he hb
      refine wp_region_any hm ?_
      have none_dn : ∀ i, ¬ dn (Array.replicate ops.size false) i := fun i hi => by
        unfold dn at hi
        rw [Array.getD_eq_getD_getElem?, Array.getElem?_replicate] at hi
        split at hi <;> simp at hi
      refine draw_in hC I 40 h hQ ops.size ⟨by simp, fun i o ho hi => absurd hi (none_dn i), fun i hi => absurd hi (none_dn i), fun i hi _ => (by cases hi), S.drew, Nat.le_refl _, ExtS.refl _ _, ⟨G.size, fun k tt m hk hD => absurd hD (none_dn k), fun tt e he _ => G.get tt e he⟩, hd, fun i b x hx => (by cases hx), fun i kd hk => (by cases hk)⟩ ?_
      exact Nat.le_trans (List.length_filter_le _ _) (by simp)
    · cases h
end
end Go.Proofs.YtcfopechdlgioaaGreatDoor
