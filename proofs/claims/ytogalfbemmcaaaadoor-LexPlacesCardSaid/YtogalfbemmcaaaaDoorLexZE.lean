/- Tokens, part ZE: the law of places: its walk. -/
import Derived.Test.YtogalfbemmcaaaaDoorLexZD
namespace Go.Proofs.YtogalfbemmcaaaaDoor
open Go.RowKit
attribute [local go_sem] says_tt says_ff th_need th_ite th_call th_load th_store th_mk th_new th_mks th_str says_ret says_again says_app BE.den IE.den SE.den LE.den AE.den CE.den PE.den VE.den KV.val Got.den Got.cnt exI allI exL allL Ctx.push Ctx.heap Ctx.cut Ctx.bare Ctx.mark Inc.blank List.getD_cons_zero List.getD_cons_succ List.cons_append List.nil_append List.append_nil List.map_cons List.map_nil List.replicate_zero List.replicate_succ specOf ltB_t leB_t ltB_f leB_f slc_val slc_nil slc_inj pt_val pt_nil hle_noHeap hle_refl hread_set hwrite_set set_same set_set noHeap_at B_inj ones_nil and_assoc
/-- At a token. -/
structure PI (s : List UInt8) (L : List Tok) (sl : Slc) (idx i p : Nat) (hh : Hp) : Prop where
  ts : TS hh sl L
  pls : Pls s i (L.drop idx)
  le : p ≤ i + ski false s i
  i_le : i ≤ s.length
def plInv (s : List UInt8) (L : List Tok) (sl : Slc) : Nat → Ctx → Prop
  | 0, C => ∃ f0 f1 f2 p idx i y hh, C = ⟨[f0, f1, f2, (p : Nat), (pl s p).1, (pl s p).2, (idx : Nat)], [y], [s], [], [sl], [], hh, noM⟩ ∧ PI s L sl idx i p hh
  | _ + 1, C => ∃ f0 f1 f2 a0 a1 a2 p idx i y hh, C = ⟨[f0, f1, f2, a0, a1, a2, (idx : Nat), (p : Nat), (pl s p).1, (pl s p).2], [y], [s], [], [sl], [], hh, noM⟩ ∧ PI s L sl idx i p hh
def plMeas (s : List UInt8) (L : List Tok) : Nat → Ctx → Nat
  | 0, C => ((L.length : Int) - C.i.getD 6 0).toNat
  | _ + 1, C => ((s.length : Int) - C.i.getD 7 0).toNat
theorem ad_nl {p : Int × Int} {b : Int} (h : b = 10) : ad p b = (p.1 + 1, 1) := if_pos h
theorem ad_no {p : Int × Int} {b : Int} (h : ¬ b = 10) : ad p b = (p.1, p.2 + 1) := if_neg h
set_option maxRecDepth 100000 in
set_option maxHeartbeats 8000000 in
theorem law_places_l (s : List UInt8) (w : World) : Calls Tryd.prog 6 #[.string (B s)] w fun e w' => e = .returned (.bool true) ∧ Below w.heap.size w w' := by
  obtain ⟨L, hL⟩ : ∃ L, L = (lexAll s).2 := ⟨_, rfl⟩
  -- the slice is known only behind the first call: the invariants hold for whatever slice
  refine by_fm0 Tryd.func6 gen_lplaces ps_lplaces [ctAwake, ctTokens, ctROne] _ (fun o C => ∃ sl, plInv s L sl o C) (plMeas s L) ⟨[], [], [s], [], [], [], noHeap, noM⟩ rfl ⟨rfl, rfl, rfl, rfl, rfl, rfl⟩ ones_nil ?_ w rfl
  generalize hE : (⟨specOf _, _, _, _⟩ : Env) = E
  have s1 : E.spec 8 = ctAwake.spec := by rw [← hE]; rfl
  have s2 : E.spec 9 = ctTokens.spec := by rw [← hE]; rfl
  have s3 : E.spec 13 = ctROne.spec := by rw [← hE]; rfl
  have ep : E.post = fun v _ => v = .bool true := by rw [← hE]
  have ei : E.inv = fun o C => ∃ sl, plInv s L sl o C := by rw [← hE]
  have em : E.meas = plMeas s L := by rw [← hE]
  clear hE
  unfold fm_lplaces
  rw [th_ite]
  by_cases hl : 2000 < s.length
  · rw [if_pos (by simp [go_sem]; omega), then_step, th_call, if_pos (by rfl), s1]
    refine ⟨rfl, (fun h => by cases h), ?_⟩
    simp [go_sem]
    simp only [then_step]; simp [go_sem, ep]
  rw [if_neg (by simp [go_sem]; omega), then_step, th_call, if_pos (by rfl), s2]
  refine ⟨s, rfl, ?_⟩
  rw [if_neg (by omega)]
  by_cases hf : (lexAll s).1.1 = 0
  rotate_left
  · rw [if_neg hf]
    refine ⟨(fun h => by cases h), ?_⟩
    simp [go_sem]
    iterate 4 (try simp only [then_step]; try simp [go_sem, ep, s1, ctAwake, hf])
  rw [if_pos hf]
  intro sl k hle hown hn
  refine ⟨(fun h => by cases h), ?_⟩
  simp [go_sem]
  obtain ⟨l, hl1, hpls⟩ := lexA_pls (s.length + 1) s 0 [] (by omega) (by omega) (by unfold pl; rw [sub_same]; exact hf)
  have hl2 : l = L := by
    rw [hL]; unfold lexAll
    have e : pl s 0 = (1, 1) := by unfold pl; rw [sub_same]; rfl
    rw [e] at hl1
    rw [hl1, List.nil_append]
  subst hl2
  rw [← hL] at hown hn
  have hts : TS k sl l := TS.of_own hown hn
  have hlen : l.length ≤ 1000000 := by
    have := lexA_len (s.length + 1) s 0 (1, 1) []
    rw [hL]; unfold lexAll; simp at this; omega
  have hne : l ≠ [] := by rintro rfl; exact hpls
  have hpos : 0 < l.length := List.length_pos_iff.2 hne
  have hnz : ¬ sl.n = 0 := by omega
  iterate 2 (try simp only [then_step]; try simp [go_sem, hnz])
  try rw [then_step]
  refine loop_intro ?_ ?_
  · rw [ei]
    exact ⟨sl, 0, 0, 0, 0, 0, 0, false, k, by simp [go_sem, Ctx.bare, Got.den, pl, sub_same, adv], hts, by simpa using hpls, by omega, by omega⟩
  · rw [ei, em]
    rintro i' bb ss v ll pp hh0 M ⟨sl, f0, f1, f2, p, idx, i, y, hh, hC, X⟩ hM
    cases hC
    have hM' : M 0 = ((l.length : Int) - idx).toNat := hM
    clear hM hts hown hn hnz hle
    obtain ⟨X1, X2, X3, X4⟩ := X
    have hidx : idx < l.length := by
      by_cases h : idx < l.length
      · exact h
      · rw [List.drop_eq_nil_of_le (by omega)] at X2; exact X2.elim
    obtain ⟨b, c, T, r, rfl, kb⟩ := X1.slc hidx
    have hz : (idx : Int) < l.length := by omega
    rw [← then_step]
    iterate 1 (try simp only [then_step]; try simp [go_sem, hz])
    try rw [then_step]
    refine loop_in ?_ ?_
    · rw [ei]
      exact ⟨⟨some (b, 0), l.length, c⟩, f0, f1, f2, p, (pl s p).1, (pl s p).2, p, idx, i, y, hh0, by simp [go_sem, Ctx.bare, Got.den], X1, X2, X3, X4⟩
    · rintro ⟨xi, xb, xs, xv, xl, xp⟩ h' M' hc hinv hm hM1
      rw [ei] at hinv
      rw [em] at hm
      clear X1 X2 X3 X4 kb
      obtain ⟨sl2, f0', f1', f2', a0, a1, a2, p2, idx2, i2, y2, hh2, hC, Y⟩ := hinv
      simp [Ctx.push, Ctx.heap, Ctx.bare] at hC
      obtain ⟨⟨rfl, rfl, rfl, rfl, rfl, rfl, hii, rfl⟩, ⟨rfl, rfl⟩, rfl, rfl, ⟨rfl, rfl⟩, rfl, rfl⟩ := hC
      obtain rfl : idx2 = idx := by omega
      have hm' : M' 1 = ((s.length : Int) - p2).toNat := hm
      have hM0 : M' 0 = M 0 := hM1 0 (by decide)
      clear hm hM1 hc
      have Y' := Y
      obtain ⟨X1, X2, X3, X4⟩ := Y
      rw [List.drop_eq_getElem_cons hidx] at X2
      obtain ⟨t, ht⟩ : ∃ t, t = l[idx2] := ⟨_, rfl⟩
      rw [← ht] at X2
      obtain ⟨g1, g2, g3⟩ := X2
      obtain ⟨j, hj⟩ : ∃ j, j = i2 + ski false s i2 := ⟨_, rfl⟩
      rw [← hj] at g1 g2 g3 X3
      obtain ⟨b', c', T', r', he, kb⟩ := X1.slc hidx
      cases he
      have hrd := TS.read kb hidx
      rw [← ht] at hrd
      have q1 : hread h' (some (b, idx2 * 5 + 1)) 1 = some [.int .i64 t.l] := hread_sub hrd (k := 1) (m := 1) (by omega)
      have q2 : hread h' (some (b, idx2 * 5 + 2)) 1 = some [.int .i64 t.c] := hread_sub hrd (k := 2) (m := 1) (by omega)
      have q0 : hread h' (some (b, idx2 * 5)) 1 = some [.int .u8 t.k] := hread_sub hrd (k := 0) (m := 1) (by omega)
      have q3 : hread h' (some (b, idx2 * 5 + 3)) 1 = some [.int .i64 t.n] := hread_sub hrd (k := 3) (m := 1) (by omega)
      have q4 : hread h' (some (b, idx2 * 5 + 4)) 1 = some [.string (B t.x)] := hread_sub hrd (k := 4) (m := 1) (by omega)
      clear hrd kb ht
      have bp := pl_bd (show p2 ≤ s.length by omega)
      rw [← then_step]
      by_cases hpj : p2 < j
      · have hpl : (p2 : Int) < s.length := by omega
        have hpl' : p2 < s.length := by omega
        have hlt := pl_lt hpj g1
        rw [← g2] at hlt
        simp only at hlt
        have hst := pl_step hpl'
        have hnext : ∀ {x : Int × Int}, ad (pl s p2) (bt s p2) = x → E.inv 1 ⟨[f0, f1, f2, (p : Nat), (pl s p).1, (pl s p).2, (idx2 : Nat), (p2 : Int) + 1, x.1, x.2], [y], [s], [], [⟨some (b, 0), l.length, c⟩], [], h', noM⟩ := by
          rintro x rfl
          rw [ei, ← hst]
          exact ⟨_, f0, f1, f2, p, (pl s p).1, (pl s p).2, p2 + 1, idx2, i2, y, h', rfl, Y'.ts, Y'.pls, by omega, Y'.i_le⟩
        have hms : ∀ {x1 x2 : Int}, E.meas 1 ⟨[f0, f1, f2, (p : Nat), (pl s p).1, (pl s p).2, (idx2 : Nat), (p2 : Int) + 1, x1, x2], [y], [s], [], [⟨some (b, 0), l.length, c⟩], [], h', noM⟩ < M' 1 := by
          intro x1 x2
          rw [em]
          simp only [plMeas, List.getD_cons_succ, List.getD_cons_zero]
          omega
        generalize hq : pl s p2 = q at *
        obtain ⟨pa, pb⟩ := q
        simp only at hlt bp
        rcases hlt with hlt | ⟨heq, hlt⟩
        · by_cases h10 : bt s p2 = 10
          · iterate 16 (try simp only [then_step]; try simp [go_sem, hpl, hpl', hz, hidx, q1, q2, hlt, h10])
            exact ⟨by omega, by omega, by omega, by omega, by omega, by omega, hnext (ad_nl h10), hms⟩
          · iterate 16 (try simp only [then_step]; try simp [go_sem, hpl, hpl', hz, hidx, q1, q2, hlt, h10])
            exact ⟨by omega, by omega, by omega, by omega, hnext (ad_no h10), hms⟩
        · subst heq
          by_cases h10 : bt s p2 = 10
          · iterate 16 (try simp only [then_step]; try simp [go_sem, hpl, hpl', hz, hidx, q1, q2, hlt, h10])
            exact ⟨by omega, by omega, by omega, by omega, by omega, by omega, hnext (ad_nl h10), hms⟩
          · iterate 16 (try simp only [then_step]; try simp [go_sem, hpl, hpl', hz, hidx, q1, q2, hlt, h10])
            exact ⟨by omega, by omega, by omega, by omega, hnext (ad_no h10), hms⟩
      · obtain rfl : p2 = j := by omega
        have e1 : (pl s p2).1 = t.l := by rw [← g2]
        have e2 : (pl s p2).2 = t.c := by rw [← g2]
        rw [e1, e2]
        rcases g3 with ⟨gl, gk, gd⟩ | ⟨gl, gf, gk, gn, gx, g8, gd, gp⟩
        · have hlast : (idx2 : Int) = l.length - 1 := by
            have := congrArg List.length gd
            rw [List.length_drop] at this; simp at this; omega
          have hpl : ¬ (p2 : Int) < s.length := by omega
          have hpe : (p2 : Int) = s.length := by omega
          have hlb : ((idx2 : Int) == (l.length : Int) - 1) = true := by simpa using hlast
          have hl1 : 1 ≤ l.length := hpos
          iterate 32 (try simp only [then_step]; try simp [go_sem, ep, s1, ctAwake, hpl, hpe, hz, hidx, q0, q1, q2, gk, hlb])
          omega
        · have hnl : ¬ (idx2 : Int) = l.length - 1 := by
            have : 0 < (l.drop (idx2 + 1)).length := List.length_pos_iff.2 gd
            rw [List.length_drop] at this; omega
          have hpl : (p2 : Int) < s.length := by omega
          iterate 28 (try simp only [then_step]; try simp [go_sem, ep, hpl, gl, hz, hidx, q0, q1, q2, g8, hnl])
          have hlb : ((idx2 : Int) == (l.length : Int) - 1) = false := by simpa using hnl
          have h8b : (t.k == 8) = false := by simpa using g8
          refine ⟨by omega, by omega, by rw [hlb, h8b], ?_⟩
          rw [s3]
          obtain ⟨o1, o2, _⟩ := one_ok gl gf
          refine ⟨s, p2, rfl, gl, by omega, ?_⟩
          rw [if_pos gf]
          refine ⟨_, _, _, _, _, _, _, rfl, ?_⟩
          simp only [← gk, ← gn, ← gx, if_true]
          refine ⟨t.k, q0, ?_⟩
          rw [if_pos ⟨trivial, rfl⟩]
          refine ⟨t.x, q4, ?_⟩
          iterate 24 (try simp only [then_step]; try simp [go_sem, ei, em, hz, hidx, q3])
          refine ⟨by omega, by omega, ⟨⟨some (b, 0), l.length, c⟩, f0, f1, f2, p2, idx2 + 1, (one s p2).e, y, h', by rw [e1, e2, show ((idx2 + 1 : Nat) : Int) = (idx2 : Int) + 1 by omega], X1, gp, by omega, o2⟩, ?_⟩
          simp only [plMeas, List.getD_cons_succ, List.getD_cons_zero]
          omega
theorem law_places (s : ByteArray) (w : World) : Calls Tryd.prog 6 #[.string s] w fun e w' => e = .returned (.bool true) ∧ Below w.heap.size w w' := by
  rw [string_B s]; exact law_places_l _ w
end Go.Proofs.YtogalfbemmcaaaaDoor
