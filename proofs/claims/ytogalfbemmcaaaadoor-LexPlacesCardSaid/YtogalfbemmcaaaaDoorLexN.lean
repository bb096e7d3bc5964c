/- Tokens, part N: all tokens. -/
import Derived.Test.YtogalfbemmcaaaaDoorLexM
namespace Go.Proofs.YtogalfbemmcaaaaDoor
open Go.RowKit
attribute [local go_sem] says_tt says_ff th_need th_ite th_call th_load th_store th_mk th_new th_mks th_str says_ret says_again says_app BE.den IE.den SE.den LE.den AE.den CE.den PE.den VE.den KV.val Got.den Got.cnt exI allI exL allL Ctx.push Ctx.heap Ctx.cut Ctx.bare Ctx.mark Inc.blank List.getD_cons_zero List.getD_cons_succ List.cons_append List.nil_append List.append_nil List.map_cons List.map_nil List.replicate_zero List.replicate_succ specOf ltB_t leB_t ltB_f leB_f slc_val slc_nil slc_inj pt_val pt_nil hle_noHeap hle_refl hread_set hwrite_set set_same set_set noHeap_at B_inj ones_nil and_assoc
def fm_tokens : Fm := (.ite (.lt (.c 65536) (.len (.x 0)))
  (.ret (.tup [(.one (.sl .nil)), (.agg [(.i .i64 (.c 3)), (.i .i64 (.c 0)), (.i .i64 (.c 0))])]))
  (.new [(.s (.x 0)), (.i .i64 (.c 0)), (.i .i64 (.c 1)), (.i .i64 (.c 1))] 40
  (.loop 0 ⟨[(.c 0), (.c 0), (.c 0)], [], [], [], [.nil, .nil], []⟩
  (.call (.c true) false 16 [(.one (.pt 0))] (.tup []) ⟨0, 0, 0, 0, 0, 0⟩
  (.load (.c true) (.pt 0 2) 1 [(.i .i64 (.x 3))] ⟨1, 0, 0, 0, 0, 0⟩
  (.load (.c true) (.pt 0 3) 1 [(.i .i64 (.x 4))] ⟨1, 0, 0, 0, 0, 0⟩
  (.need (.c true) (.nnp 0)
  (.need (.c true) (.nnp 0)
  (.need (.c true) (.nnp 0)
  (.need (.c true) (.nnp 0)
  (.need (.c true) (.nnp 0)
  (.need (.c true) (.nnp 0)
  (.load (.c true) (.pt 0 1) 1 [(.i .i64 (.x 5))] ⟨1, 0, 0, 0, 0, 0⟩
  (.ite (.eqI (.x 5) (.len (.x 0)))
  (.mk [(.i .u8 (.c 8)), (.i .i64 (.x 3)), (.i .i64 (.x 4)), (.i .i64 (.c 0)), (.s (.c []))] 33 1
  (.app (.x 1) (.x 2) 5 48 33
  (.ret (.tup [(.one (.sl (.x 3))), (.agg [(.i .i64 (.c 0)), (.i .i64 (.c 0)), (.i .i64 (.c 0))])]))))
  (.need (.c true) (.nnp 0)
  (.need (.c true) (.nnp 0)
  (.load (.c true) (.pt 0 1) 1 [(.i .i64 (.x 6))] ⟨1, 0, 0, 0, 0, 0⟩
  (.need (.c true) (.and (.le (.c 0) (.x 6)) (.lt (.x 6) (.len (.x 0))))
  (.call (.c true) false 17 [(.one (.i .u8 (.at (.x 0) (.x 6))))] (.p (.one (.b (.x 0)))) ⟨0, 1, 0, 0, 0, 0⟩
  (.call (.not (.x 0)) false 18 [(.one (.i .u8 (.at (.x 0) (.x 6))))] (.p (.one (.b (.x 1)))) ⟨0, 1, 0, 0, 0, 0⟩
  (.ite (.or (.x 0) (.x 1))
  (.call (.c true) false 19 [(.one (.pt 0)), (.agg [(.i .u8 (.c 0)), (.i .i64 (.x 3)), (.i .i64 (.x 4)), (.i .i64 (.c 0)), (.s (.c []))])] (.p (.agg [(.i .u8 (.x 7)), (.i .i64 (.x 8)), (.i .i64 (.x 9)), (.i .i64 (.x 10)), (.s (.x 1))])) ⟨4, 0, 1, 0, 0, 0⟩
  (.ite (.eqI (.c 0) (.c 0))
  (.mk [(.i .u8 (.x 7)), (.i .i64 (.x 8)), (.i .i64 (.x 9)), (.i .i64 (.x 10)), (.s (.x 1))] 33 1
  (.app (.x 1) (.x 2) 5 48 33
  (.again 0 ⟨0, 0, 1, 0, 0, 1⟩ ⟨3, 0, 1, 0, 2, 1⟩ ⟨[(.x 0), (.x 1), (.x 2)], [], [], [], [(.x 0), (.x 3)], []⟩)))
  (.load (.c true) (.pt 0 2) 1 [(.i .i64 (.x 11))] ⟨1, 0, 0, 0, 0, 0⟩
  (.load (.c true) (.pt 0 3) 1 [(.i .i64 (.x 12))] ⟨1, 0, 0, 0, 0, 0⟩
  (.need (.c true) (.nnp 0)
  (.need (.c true) (.nnp 0)
  (.need (.c true) (.nnp 0)
  (.need (.c true) (.nnp 0)
  (.ret (.tup [(.one (.sl .nil)), (.agg [(.i .i64 (.c 0)), (.i .i64 (.x 11)), (.i .i64 (.x 12))])]))))))))))
  (.call (.c true) false 20 [(.one (.i .u8 (.at (.x 0) (.x 6))))] (.p (.one (.b (.x 2)))) ⟨0, 1, 0, 0, 0, 0⟩
  (.ite (.x 2)
  (.call (.c true) false 21 [(.one (.pt 0)), (.agg [(.i .u8 (.c 0)), (.i .i64 (.x 3)), (.i .i64 (.x 4)), (.i .i64 (.c 0)), (.s (.c []))])] (.tup [(.agg [(.i .u8 (.x 7)), (.i .i64 (.x 8)), (.i .i64 (.x 9)), (.i .i64 (.x 10)), (.s (.x 1))]), (.one (.i .i64 (.x 11)))]) ⟨5, 0, 1, 0, 0, 0⟩
  (.ite (.eqI (.x 11) (.c 0))
  (.mk [(.i .u8 (.x 7)), (.i .i64 (.x 8)), (.i .i64 (.x 9)), (.i .i64 (.x 10)), (.s (.x 1))] 33 1
  (.app (.x 1) (.x 2) 5 48 33
  (.again 0 ⟨0, 0, 1, 0, 0, 1⟩ ⟨3, 0, 1, 0, 2, 1⟩ ⟨[(.x 0), (.x 1), (.x 2)], [], [], [], [(.x 0), (.x 3)], []⟩)))
  (.load (.c true) (.pt 0 2) 1 [(.i .i64 (.x 12))] ⟨1, 0, 0, 0, 0, 0⟩
  (.load (.c true) (.pt 0 3) 1 [(.i .i64 (.x 13))] ⟨1, 0, 0, 0, 0, 0⟩
  (.need (.c true) (.nnp 0)
  (.need (.c true) (.nnp 0)
  (.need (.c true) (.nnp 0)
  (.need (.c true) (.nnp 0)
  (.ret (.tup [(.one (.sl .nil)), (.agg [(.i .i64 (.x 11)), (.i .i64 (.x 12)), (.i .i64 (.x 13))])]))))))))))
  (.ite (.eqI (.at (.x 0) (.x 6)) (.c 34))
  (.call (.c true) false 22 [(.one (.pt 0)), (.agg [(.i .u8 (.c 0)), (.i .i64 (.x 3)), (.i .i64 (.x 4)), (.i .i64 (.c 0)), (.s (.c []))])] (.tup [(.agg [(.i .u8 (.x 7)), (.i .i64 (.x 8)), (.i .i64 (.x 9)), (.i .i64 (.x 10)), (.s (.x 1))]), (.one (.i .i64 (.x 11)))]) ⟨5, 0, 1, 0, 0, 0⟩
  (.ite (.eqI (.x 11) (.c 0))
  (.mk [(.i .u8 (.x 7)), (.i .i64 (.x 8)), (.i .i64 (.x 9)), (.i .i64 (.x 10)), (.s (.x 1))] 33 1
  (.app (.x 1) (.x 2) 5 48 33
  (.again 0 ⟨0, 0, 1, 0, 0, 1⟩ ⟨3, 0, 1, 0, 2, 1⟩ ⟨[(.x 0), (.x 1), (.x 2)], [], [], [], [(.x 0), (.x 3)], []⟩)))
  (.load (.c true) (.pt 0 2) 1 [(.i .i64 (.x 12))] ⟨1, 0, 0, 0, 0, 0⟩
  (.load (.c true) (.pt 0 3) 1 [(.i .i64 (.x 13))] ⟨1, 0, 0, 0, 0, 0⟩
  (.need (.c true) (.nnp 0)
  (.need (.c true) (.nnp 0)
  (.need (.c true) (.nnp 0)
  (.need (.c true) (.nnp 0)
  (.ret (.tup [(.one (.sl .nil)), (.agg [(.i .i64 (.x 11)), (.i .i64 (.x 12)), (.i .i64 (.x 13))])]))))))))))
  (.call (.c true) false 23 [(.one (.pt 0)), (.agg [(.i .u8 (.c 0)), (.i .i64 (.x 3)), (.i .i64 (.x 4)), (.i .i64 (.c 0)), (.s (.c []))])] (.tup [(.agg [(.i .u8 (.x 7)), (.i .i64 (.x 8)), (.i .i64 (.x 9)), (.i .i64 (.x 10)), (.s (.x 1))]), (.one (.i .i64 (.x 11)))]) ⟨5, 0, 1, 0, 0, 0⟩
  (.ite (.eqI (.x 11) (.c 0))
  (.mk [(.i .u8 (.x 7)), (.i .i64 (.x 8)), (.i .i64 (.x 9)), (.i .i64 (.x 10)), (.s (.x 1))] 33 1
  (.app (.x 1) (.x 2) 5 48 33
  (.again 0 ⟨0, 0, 1, 0, 0, 1⟩ ⟨3, 0, 1, 0, 2, 1⟩ ⟨[(.x 0), (.x 1), (.x 2)], [], [], [], [(.x 0), (.x 3)], []⟩)))
  (.load (.c true) (.pt 0 2) 1 [(.i .i64 (.x 12))] ⟨1, 0, 0, 0, 0, 0⟩
  (.load (.c true) (.pt 0 3) 1 [(.i .i64 (.x 13))] ⟨1, 0, 0, 0, 0, 0⟩
  (.need (.c true) (.nnp 0)
  (.need (.c true) (.nnp 0)
  (.need (.c true) (.nnp 0)
  (.need (.c true) (.nnp 0)
  (.ret (.tup [(.one (.sl .nil)), (.agg [(.i .i64 (.x 11)), (.i .i64 (.x 12)), (.i .i64 (.x 13))])]))))))))))))))))))))))))))))))))))
theorem gen_tokens : genFn ⟨true, [15]⟩ Tryd.prog (fun l => ([⟨[2, 5], [16, 17, 18, 19, 20, 21, 22, 23, 24, 25, 26, 6, 27, 28, 29, 30, 31, 32, 33, 34, 35, 36, 37, 38, 39, 7, 40, 41, 42, 43, 44, 45, 8, 53, 54, 55, 56, 57, 58, 52, 59, 60, 61, 63, 64, 62, 66, 67, 68, 65, 69, 70, 72, 73, 71, 75, 76, 77, 74, 78, 79, 47, 48, 49, 46, 50, 51, 80, 81, 82, 83, 84, 85, 86, 87, 88, 89, 90, 91, 92, 93, 94, 95], [6, 3]⟩] : List LAnn).getD l ⟨[], [], []⟩) Tryd.f9 = fm_tokens := by kernel_rfl
theorem ps_tokens : freshPs Tryd.prog .zero Tryd.f9.params.toList = some ([(.one (.s (.x 0)))], ⟨0, 0, 1, 0, 0, 0⟩) := by kernel_rfl
def pl (s : List UInt8) (i : Nat) : Int × Int := adv (1, 1) (sub s 0 i)
theorem own_set {h : Hp} {sl : Slc} {xs : List Value} {ty : TypeId} {sz b : Nat} (hs : OwnS h sl xs ty sz) (hb : ∀ z, sl.a = some z → z.1 ≠ b) (o : HO) : OwnS (h.set b o) sl xs ty sz := by
  rcases hs with hs | ⟨c, o', h1, h2, h3⟩
  · exact .inl hs
  · exact .inr ⟨c, o', h1, by rw [set_ne _ (hb _ h1)]; exact h2, h3⟩
def TK : TypeId := 33
def RD : TypeId := 40
/-- What is known ahead of a token. -/
structure TkI (h : Hp) (s : List UInt8) (rb : Nat) (sl : Slc) (i m : Nat) (acc : List Tok) (hh : Hp) : Prop where
  le : i ≤ s.length
  fuel : s.length < m + i
  cnt : acc.length ≤ i
  all : lexAll s = lexA m s i (pl s i) acc
  own : OwnS hh sl (tcs acc) TK 5
  n : sl.n = acc.length
  fresh : ∀ z, sl.a = some z → z.1 ≠ rb ∧ h z.1 = none
  kept : HLe h hh
  nrb : h rb = none
def tkInv (h : Hp) (s : List UInt8) (_ : Nat) (C : Ctx) : Prop :=
  ∃ x0 x1 x2 l0 sl rb i m acc hh, C = ⟨[x0, x1, x2], [], [s], [], [l0, sl], [some (rb, 0)], Hp.set hh rb ⟨rc s (i : Nat) (pl s i).1 (pl s i).2, RD⟩, noM⟩ ∧ TkI h s rb sl i m acc hh
def rbOf (C : Ctx) : Nat := ((C.p.getD 0 none).getD (0, 0)).1
/-- A token more: memory, ahead. -/
theorem tk_own {h : Hp} {s : List UInt8} {rb : Nat} {sl : Slc} {i m : Nat} {acc : List Tok} {hh : Hp} (I : TkI h s rb sl i m acc hh) (R : HO) {b : Nat} (hb : (hh.set rb R) b = none) (cs : List Value) :
    OwnS ((hh.set rb R).set b ⟨cs, TK⟩) sl (tcs acc) TK 5 := by
  refine own_set (own_set I.own (fun z hz => (I.fresh z hz).1) R) (fun z hz e => ?_) _
  rcases I.own with ⟨h1, _⟩ | ⟨c, o', h1, h2, _⟩
  · rw [h1] at hz; cases hz
  · rw [h1] at hz; cases hz
    subst e
    rw [set_ne _ (I.fresh _ h1).1] at hb
    rw [h2] at hb; cases hb
/-- A token more: memory, behind. -/
theorem tk_more {h : Hp} {s : List UInt8} {rb : Nat} {sl : Slc} {i m : Nat} {acc : List Tok} {hh : Hp} (I : TkI h s rb sl i m acc hh) {R : HO} {b : Nat} (hb : (hh.set rb R) b = none) {cs : List Value} {sl' : Slc} {k : Hp}
    (h3 : ∀ x, sl'.a = some x → (∃ z, sl.a = some z ∧ z.1 = x.1) ∨ ((hh.set rb R).set b ⟨cs, TK⟩) x.1 = none) (h4 : ∀ c o, (∀ x, sl.a = some x → x.1 ≠ c) → ((hh.set rb R).set b ⟨cs, TK⟩) c = some o → k c = some o) :
    k rb = some R ∧ HLe h k ∧ ∀ z, sl'.a = some z → z.1 ≠ rb ∧ h z.1 = none := by
  have nb : rb ≠ b := fun e => by rw [← e, set_same] at hb; cases hb
  refine ⟨h4 rb R (fun x hx => (I.fresh x hx).1) (by rw [set_ne _ nb, set_same]), fun c o hc => ?_, fun z hz => ?_⟩
  · have n1 : c ≠ rb := fun e => by rw [e, I.nrb] at hc; cases hc
    have n2 : c ≠ b := fun e => by rw [← e, set_ne _ n1, I.kept c o hc] at hb; cases hb
    refine h4 c o (fun x hx e => ?_) (by rw [set_ne _ n2, set_ne _ n1]; exact I.kept c o hc)
    have := (I.fresh x hx).2
    rw [e, hc] at this; cases this
  · rcases h3 z hz with ⟨y, hy, e⟩ | hn
    · rw [← e]; exact I.fresh y hy
    · have n2 : z.1 ≠ b := fun e => by rw [e, set_same] at hn; cases hn
      rw [set_ne _ n2] at hn
      have n1 : z.1 ≠ rb := fun e => by rw [e, set_same] at hn; cases hn
      rw [set_ne _ n1] at hn
      refine ⟨n1, ?_⟩
      cases hq : h z.1 with
      | none => rfl
      | some o => rw [I.kept _ _ hq] at hn; cases hn
theorem pl_add {s : List UInt8} {i j : Nat} (h1 : i ≤ j) (h2 : j ≤ s.length) : adv (pl s i) (sub s i j) = pl s j := by
  unfold pl
  rw [← adv_app, ← sub_sub s (Nat.zero_le i) h1 h2]
/-- A token more. -/
theorem tk_next {h : Hp} {s : List UInt8} {rb : Nat} {sl : Slc} {i m j : Nat} {acc : List Tok} {hh : Hp} (I : TkI h s rb sl i m acc hh) (hj : j = i + ski false s i) (hjl : j < s.length) (hf : (one s j).f = 0) {R : HO} {b : Nat} (hb : (hh.set rb R) b = none) {cs : List Value} {sl' : Slc} {k : Hp}
    (h1 : OwnS k sl' (tcs acc ++ (Tok.mk (one s j).k (pl s j).1 (pl s j).2 (one s j).n (one s j).x).cs) TK 5) (h2 : sl'.n = sl.n + 1)
    (h3 : ∀ x, sl'.a = some x → (∃ z, sl.a = some z ∧ z.1 = x.1) ∨ ((hh.set rb R).set b ⟨cs, TK⟩) x.1 = none) (h4 : ∀ c o, (∀ x, sl.a = some x → x.1 ≠ c) → ((hh.set rb R).set b ⟨cs, TK⟩) c = some o → k c = some o) :
    k = k.set rb R ∧ i < (one s j).e ∧ (one s j).e ≤ s.length ∧
      TkI h s rb sl' (one s j).e (m - 1) (acc ++ [Tok.mk (one s j).k (pl s j).1 (pl s j).2 (one s j).n (one s j).x]) k := by
  obtain ⟨e1, e2, e3⟩ := tk_more I hb h3 h4
  obtain ⟨o1, o2, o3⟩ := one_ok hjl hf
  have hm := I.fuel
  have hle := I.le
  obtain ⟨m', rfl⟩ : ∃ m', m = m' + 1 := ⟨m - 1, by omega⟩
  have p1 : adv (pl s i) (sub s i (one s j).e) = pl s (one s j).e := pl_add (by omega) o2
  have p2 : adv (pl s i) (sub s i j) = pl s j := pl_add (by omega) (by omega)
  refine ⟨set_self e1, by omega, o2, ⟨o2, by omega, by have := I.cnt; simp; omega, ?_, by rw [tcs_app, tcs_one]; exact h1, by rw [h2, I.n]; simp, e3, e2, I.nrb⟩⟩
  rw [I.all, lexA, ← hj, if_neg (by omega), if_pos hf, p1, p2]
  rfl
theorem pl_bd {s : List UInt8} {i : Nat} (hi : i ≤ s.length) : 0 ≤ (pl s i).1 ∧ (pl s i).1 ≤ 1 + i ∧ 0 ≤ (pl s i).2 ∧ (pl s i).2 ≤ 1 + i := by
  have := adv_bd (1, 1) (sub s 0 i) (by decide) (by decide)
  rw [sub_len s hi] at this
  unfold pl
  simp at this ⊢
  omega
theorem pl_tok {s : List UInt8} {j : Nat} (hj : j < s.length) (hf : (one s j).f = 0) : pl s (one s j).e = ((pl s j).1, (pl s j).2 + ((one s j).e : Int) - j) := by
  unfold pl
  exact one_adv (1, 1) (Nat.zero_le j) hj hf
/-- A token is put behind the others. -/
theorem tk_app {E : Env} {C : Ctx} {x y : LE} {f : Fm} {h : Hp} {s : List UInt8} {rb : Nat} {sl : Slc} {i m : Nat} {acc : List Tok} {hh : Hp} (I : TkI h s rb sl i m acc hh) (hlen : s.length ≤ 100000) {R : HO} {b : Nat} (hb : (hh.set rb R) b = none) {cs : List Value} (hc : cs.length = 5) (ho : Ones cs)
    (hx : x.den C = sl) (hy : y.den C = ⟨some (b, 0), 1, 1⟩) (hC : C.h = (hh.set rb R).set b ⟨cs, TK⟩)
    (hk : ∀ s' k', OwnS k' s' (tcs acc ++ cs) TK 5 → s'.n = sl.n + 1 → (∀ x, s'.a = some x → (∃ z, sl.a = some z ∧ z.1 = x.1) ∨ ((hh.set rb R).set b ⟨cs, TK⟩) x.1 = none) → (∀ c o, (∀ x, sl.a = some x → x.1 ≠ c) → ((hh.set rb R).set b ⟨cs, TK⟩) c = some o → k' c = some o) → f.says E ((C.push ⟨[], [], [], [], [s'], []⟩).heap k')) :
    (Fm.app x y 5 48 TK f).says E C := by
  have h1 := I.n
  have h2 := I.cnt
  have h3 := I.le
  rw [says_app, hx, hy, hC]
  refine ⟨tcs acc, cs, tk_own I R hb cs, ⟨by simp, ?_⟩, ho, ?_, ?_, hk⟩
  · rw [hread_set, if_pos (by simp [hc])]
    simp [List.take_of_length_le, hc]
  · show sl.n + 1 ≤ maxLen
    unfold maxLen; omega
  · show (sl.n + 1) * 48 ≤ _
    omega
theorem Tok.ones (t : Tok) : Ones t.cs := by
  intro u hu
  simp only [Tok.cs, List.mem_cons, List.not_mem_nil, or_false] at hu
  rcases hu with rfl | rfl | rfl | rfl | rfl <;> rfl
theorem tk_push {E : Env} {h : Hp} {s : List UInt8} {rb : Nat} {sl : Slc} {i m j : Nat} {acc : List Tok} {hh : Hp} (I : TkI h s rb sl i m acc hh) (hlen : s.length ≤ 100000) (ei : E.inv = tkInv h s) (em : E.meas = fun _ C => (s.length - atOf C.h (rbOf C)).toNat) (hj : j = i + ski false s i) (hjl : j < s.length) (hf : (one s j).f = 0)
    {l0 : Slc} {is : List Int} {bs : List Bool} {ss : List (List UInt8)} {M : Nat → Nat} {x0 x1 x2 : Int} {cs : List CE} {e L Co : Int} (he : e = (one s j).e) (hL : L = (pl s (one s j).e).1) (hCo : Co = (pl s (one s j).e).2) (hM : M 0 = ((s.length : Int) - i).toNat)
    (hcs : cs.map (CE.den ⟨x0 :: x1 :: x2 :: is, bs, s :: ss, [], [l0, sl], [some (rb, 0)], hh.set rb ⟨[.string (B s), .int .i64 e, .int .i64 L, .int .i64 Co], RD⟩, M⟩ noOwn) = (Tok.mk (one s j).k (pl s j).1 (pl s j).2 (one s j).n (one s j).x).cs) :
    (Fm.mk cs TK 1 (.app (.x 1) (.x 2) 5 48 TK (.again 0 ⟨0, 0, 1, 0, 0, 1⟩ ⟨3, 0, 1, 0, 2, 1⟩ ⟨[(.x 0), (.x 1), (.x 2)], [], [], [], [(.x 0), (.x 3)], []⟩))).says E
      ⟨x0 :: x1 :: x2 :: is, bs, s :: ss, [], [l0, sl], [some (rb, 0)], hh.set rb ⟨[.string (B s), .int .i64 e, .int .i64 L, .int .i64 Co], RD⟩, M⟩ := by
  subst he hL hCo
  rw [says_mk, hcs]
  intro b hb
  refine tk_app I hlen (b := b) hb rfl (Tok.ones _) rfl rfl rfl ?_
  intro s' k' h1 h2 h3 h4
  obtain ⟨q1, q2, q3, q4⟩ := tk_next I hj hjl hf hb h1 h2 h3 h4
  rw [says_again, ei, em]
  refine ⟨⟨x0, x1, x2, l0, s', rb, (one s j).e, m - 1, _, k', ?_, q4⟩, ?_⟩
  · have e : rc s ((one s j).e : Nat) (pl s (one s j).e).1 (pl s (one s j).e).2 = [.string (B s), .int .i64 ((one s j).e : Nat), .int .i64 (pl s (one s j).e).1, .int .i64 (pl s (one s j).e).2] := rfl
    rw [e, ← q1]
    rfl
  · show ((s.length : Int) - atOf k' rb).toNat < M 0
    have e : atOf k' rb = ((one s j).e : Nat) := by
      rw [q1]; exact atOf_set _ _ _ _ _ _ _
    rw [e, hM]; omega
end Go.Proofs.YtogalfbemmcaaaaDoor
