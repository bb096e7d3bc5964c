/- hindcastlaw06: texts joined: LexN, LexZD, ParF, ParG, ParGB, ParH, ParI, ParJ, ParK, ParL, ParM, ParN. -/
import Derived.Test.YthlakehilhpojaaGreatDoorPee
namespace Go.Proofs.YthlakehilhpojaaGreatDoor
open Go.RowKit
attribute [local go_sem] says_tt says_ff th_need th_ite th_call th_callK th_load th_store th_mk th_new th_mks th_str says_ret says_again says_app BE.den IE.den SE.den LE.den AE.den CE.den PE.den VE.den KV.val Got.den Got.cnt exI allI exL allL Ctx.push Ctx.heap Ctx.cut Ctx.bare Ctx.mark Inc.blank List.getD_cons_zero List.getD_cons_succ List.cons_append List.nil_append List.append_nil List.map_cons List.map_nil List.replicate_zero List.replicate_succ specOf ltB_t leB_t ltB_f leB_f slc_val slc_nil slc_inj pt_val pt_nil hle_noHeap hle_refl hread_set hwrite_set set_same set_set noHeap_at B_inj ones_nil and_assoc
def fm_tokens : Fm := (.ite (.lt (.c 65536) (.len (.x 0)))
  (.ret (.tup [(.one (.sl .nil)), (.agg [(.i .i64 (.c 3)), (.i .i64 (.c 0)), (.i .i64 (.c 0))])]))
  (.new [(.s (.x 0)), (.i .i64 (.c 0)), (.i .i64 (.c 1)), (.i .i64 (.c 1))] 75
  (.loop 0 ⟨[(.c 0), (.c 0), (.c 0)], [], [], [], [.nil, .nil], []⟩
  (.call (.c true) false 38 [(.one (.pt 0))] (.tup []) ⟨0, 0, 0, 0, 0, 0⟩
  (.load (.c true) (.pt 0 2) 1 [(.i .i64 (.x 3))] ⟨1, 0, 0, 0, 0, 0⟩
  (.load (.c true) (.pt 0 3) 1 [(.i .i64 (.x 4))] ⟨1, 0, 0, 0, 0, 0⟩
  (.need (.c true) (.nnp 0)
  (.need (.c true) (.nnp 0)
  (.need (.c true) (.nnp 0)
  (.need (.c true) (.nnp 0)
  (.need (.c true) (.nnp 0)
  (.need (.c true) (.nnp 0)
  (.load (.c true) (.pt 0 1) 1 [(.i .i64 (.x 5))] ⟨1, 0, 0, 0, 0, 0⟩
  (.ite (.eqI (.x 5) (.len (.x 0)))
  (.mk [(.i .u8 (.c 8)), (.i .i64 (.x 3)), (.i .i64 (.x 4)), (.i .i64 (.c 0)), (.s (.c []))] 51 1
  (.app (.x 1) (.x 2) 5 48 51
  (.ret (.tup [(.one (.sl (.x 3))), (.agg [(.i .i64 (.c 0)), (.i .i64 (.c 0)), (.i .i64 (.c 0))])]))))
  (.need (.c true) (.nnp 0)
  (.need (.c true) (.nnp 0)
  (.load (.c true) (.pt 0 1) 1 [(.i .i64 (.x 6))] ⟨1, 0, 0, 0, 0, 0⟩
  (.need (.c true) (.and (.le (.c 0) (.x 6)) (.lt (.x 6) (.len (.x 0))))
  (.call (.c true) false 39 [(.one (.i .u8 (.at (.x 0) (.x 6))))] (.p (.one (.b (.x 0)))) ⟨0, 1, 0, 0, 0, 0⟩
  (.call (.not (.x 0)) false 40 [(.one (.i .u8 (.at (.x 0) (.x 6))))] (.p (.one (.b (.x 1)))) ⟨0, 1, 0, 0, 0, 0⟩
  (.ite (.or (.x 0) (.x 1))
  (.call (.c true) false 41 [(.one (.pt 0)), (.agg [(.i .u8 (.c 0)), (.i .i64 (.x 3)), (.i .i64 (.x 4)), (.i .i64 (.c 0)), (.s (.c []))])] (.p (.agg [(.i .u8 (.x 7)), (.i .i64 (.x 8)), (.i .i64 (.x 9)), (.i .i64 (.x 10)), (.s (.x 1))])) ⟨4, 0, 1, 0, 0, 0⟩
  (.ite (.eqI (.c 0) (.c 0))
  (.mk [(.i .u8 (.x 7)), (.i .i64 (.x 8)), (.i .i64 (.x 9)), (.i .i64 (.x 10)), (.s (.x 1))] 51 1
  (.app (.x 1) (.x 2) 5 48 51
  (.again 0 ⟨0, 0, 1, 0, 0, 1⟩ ⟨3, 0, 1, 0, 2, 1⟩ ⟨[(.x 0), (.x 1), (.x 2)], [], [], [], [(.x 0), (.x 3)], []⟩)))
  (.load (.c true) (.pt 0 2) 1 [(.i .i64 (.x 11))] ⟨1, 0, 0, 0, 0, 0⟩
  (.load (.c true) (.pt 0 3) 1 [(.i .i64 (.x 12))] ⟨1, 0, 0, 0, 0, 0⟩
  (.need (.c true) (.nnp 0)
  (.need (.c true) (.nnp 0)
  (.need (.c true) (.nnp 0)
  (.need (.c true) (.nnp 0)
  (.ret (.tup [(.one (.sl .nil)), (.agg [(.i .i64 (.c 0)), (.i .i64 (.x 11)), (.i .i64 (.x 12))])]))))))))))
  (.call (.c true) false 42 [(.one (.i .u8 (.at (.x 0) (.x 6))))] (.p (.one (.b (.x 2)))) ⟨0, 1, 0, 0, 0, 0⟩
  (.ite (.x 2)
  (.call (.c true) false 43 [(.one (.pt 0)), (.agg [(.i .u8 (.c 0)), (.i .i64 (.x 3)), (.i .i64 (.x 4)), (.i .i64 (.c 0)), (.s (.c []))])] (.tup [(.agg [(.i .u8 (.x 7)), (.i .i64 (.x 8)), (.i .i64 (.x 9)), (.i .i64 (.x 10)), (.s (.x 1))]), (.one (.i .i64 (.x 11)))]) ⟨5, 0, 1, 0, 0, 0⟩
  (.ite (.eqI (.x 11) (.c 0))
  (.mk [(.i .u8 (.x 7)), (.i .i64 (.x 8)), (.i .i64 (.x 9)), (.i .i64 (.x 10)), (.s (.x 1))] 51 1
  (.app (.x 1) (.x 2) 5 48 51
  (.again 0 ⟨0, 0, 1, 0, 0, 1⟩ ⟨3, 0, 1, 0, 2, 1⟩ ⟨[(.x 0), (.x 1), (.x 2)], [], [], [], [(.x 0), (.x 3)], []⟩)))
  (.load (.c true) (.pt 0 2) 1 [(.i .i64 (.x 12))] ⟨1, 0, 0, 0, 0, 0⟩
  (.load (.c true) (.pt 0 3) 1 [(.i .i64 (.x 13))] ⟨1, 0, 0, 0, 0, 0⟩
  (.need (.c true) (.nnp 0)
  (.need (.c true) (.nnp 0)
  (.need (.c true) (.nnp 0)
  (.need (.c true) (.nnp 0)
  (.ret (.tup [(.one (.sl .nil)), (.agg [(.i .i64 (.x 11)), (.i .i64 (.x 12)), (.i .i64 (.x 13))])]))))))))))
  (.ite (.eqI (.at (.x 0) (.x 6)) (.c 34))
  (.call (.c true) false 44 [(.one (.pt 0)), (.agg [(.i .u8 (.c 0)), (.i .i64 (.x 3)), (.i .i64 (.x 4)), (.i .i64 (.c 0)), (.s (.c []))])] (.tup [(.agg [(.i .u8 (.x 7)), (.i .i64 (.x 8)), (.i .i64 (.x 9)), (.i .i64 (.x 10)), (.s (.x 1))]), (.one (.i .i64 (.x 11)))]) ⟨5, 0, 1, 0, 0, 0⟩
  (.ite (.eqI (.x 11) (.c 0))
  (.mk [(.i .u8 (.x 7)), (.i .i64 (.x 8)), (.i .i64 (.x 9)), (.i .i64 (.x 10)), (.s (.x 1))] 51 1
  (.app (.x 1) (.x 2) 5 48 51
  (.again 0 ⟨0, 0, 1, 0, 0, 1⟩ ⟨3, 0, 1, 0, 2, 1⟩ ⟨[(.x 0), (.x 1), (.x 2)], [], [], [], [(.x 0), (.x 3)], []⟩)))
  (.load (.c true) (.pt 0 2) 1 [(.i .i64 (.x 12))] ⟨1, 0, 0, 0, 0, 0⟩
  (.load (.c true) (.pt 0 3) 1 [(.i .i64 (.x 13))] ⟨1, 0, 0, 0, 0, 0⟩
  (.need (.c true) (.nnp 0)
  (.need (.c true) (.nnp 0)
  (.need (.c true) (.nnp 0)
  (.need (.c true) (.nnp 0)
  (.ret (.tup [(.one (.sl .nil)), (.agg [(.i .i64 (.x 11)), (.i .i64 (.x 12)), (.i .i64 (.x 13))])]))))))))))
  (.call (.c true) false 45 [(.one (.pt 0)), (.agg [(.i .u8 (.c 0)), (.i .i64 (.x 3)), (.i .i64 (.x 4)), (.i .i64 (.c 0)), (.s (.c []))])] (.tup [(.agg [(.i .u8 (.x 7)), (.i .i64 (.x 8)), (.i .i64 (.x 9)), (.i .i64 (.x 10)), (.s (.x 1))]), (.one (.i .i64 (.x 11)))]) ⟨5, 0, 1, 0, 0, 0⟩
  (.ite (.eqI (.x 11) (.c 0))
  (.mk [(.i .u8 (.x 7)), (.i .i64 (.x 8)), (.i .i64 (.x 9)), (.i .i64 (.x 10)), (.s (.x 1))] 51 1
  (.app (.x 1) (.x 2) 5 48 51
  (.again 0 ⟨0, 0, 1, 0, 0, 1⟩ ⟨3, 0, 1, 0, 2, 1⟩ ⟨[(.x 0), (.x 1), (.x 2)], [], [], [], [(.x 0), (.x 3)], []⟩)))
  (.load (.c true) (.pt 0 2) 1 [(.i .i64 (.x 12))] ⟨1, 0, 0, 0, 0, 0⟩
  (.load (.c true) (.pt 0 3) 1 [(.i .i64 (.x 13))] ⟨1, 0, 0, 0, 0, 0⟩
  (.need (.c true) (.nnp 0)
  (.need (.c true) (.nnp 0)
  (.need (.c true) (.nnp 0)
  (.need (.c true) (.nnp 0)
  (.ret (.tup [(.one (.sl .nil)), (.agg [(.i .i64 (.x 11)), (.i .i64 (.x 12)), (.i .i64 (.x 13))])]))))))))))))))))))))))))))))))))))
theorem gen_tokens : genFn ⟨true, [15]⟩ Tryz.prog (fun l => ([⟨[2, 5], [16, 17, 18, 19, 20, 21, 22, 23, 24, 25, 26, 6, 27, 28, 29, 30, 31, 32, 33, 34, 35, 36, 37, 38, 39, 7, 40, 41, 42, 43, 44, 45, 8, 53, 54, 55, 56, 57, 58, 52, 59, 60, 61, 63, 64, 62, 66, 67, 68, 65, 69, 70, 72, 73, 71, 75, 76, 77, 74, 78, 79, 47, 48, 49, 46, 50, 51, 80, 81, 82, 83, 84, 85, 86, 87, 88, 89, 90, 91, 92, 93, 94, 95], [6, 3]⟩] : List LAnn).getD l ⟨[], [], []⟩) Tryz.f17 = fm_tokens := by kernel_rfl
theorem ps_tokens : freshPs Tryz.prog .zero Tryz.f17.params.toList = some ([(.one (.s (.x 0)))], ⟨0, 0, 1, 0, 0, 0⟩) := by kernel_rfl
def pl (s : List UInt8) (i : Nat) : Int × Int := adv (1, 1) (sub s 0 i)
theorem own_set {h : Hp} {sl : Slc} {xs : List Value} {ty : TypeId} {sz b : Nat} (hs : OwnS h sl xs ty sz) (hb : ∀ z, sl.a = some z → z.1 ≠ b) (o : HO) : OwnS (h.set b o) sl xs ty sz := by
  rcases hs with hs | ⟨c, o', h1, h2, h3⟩
  · exact .inl hs
  · exact .inr ⟨c, o', h1, by rw [set_ne _ (hb _ h1)]; exact h2, h3⟩
def TK : TypeId := 51
def RD : TypeId := 75
/-- What is known ahead of a token. -/
structure TkI (h : Hp) (s : List UInt8) (rb : Nat) (sl : Slc) (i m : Nat) (acc : List Tok) (hh : Hp) : Prop where
  le : i ≤ s.length
  fuel : s.length < m + i
  cnt : acc.length ≤ i
  all : lexAll s = lexA m s i (pl s i) acc
  own : OwnS hh sl (tcs acc) TK 5
  n : sl.n = acc.length
  fresh : ∀ z, sl.a = some z → z.1 ≠ rb ∧ h z.1 = none
  kept : HLe h hh
  nrb : h rb = none
def tkInv (h : Hp) (s : List UInt8) (_ : Nat) (C : Ctx) : Prop :=
  ∃ x0 x1 x2 l0 sl rb i m acc hh, C = ⟨[x0, x1, x2], [], [s], [], [l0, sl], [some (rb, 0)], Hp.set hh rb ⟨rc s (i : Nat) (pl s i).1 (pl s i).2, RD⟩, noM⟩ ∧ TkI h s rb sl i m acc hh
def rbOf (C : Ctx) : Nat := ((C.p.getD 0 none).getD (0, 0)).1
/-- A token more: memory, ahead. -/
theorem tk_own {h : Hp} {s : List UInt8} {rb : Nat} {sl : Slc} {i m : Nat} {acc : List Tok} {hh : Hp} (I : TkI h s rb sl i m acc hh) (R : HO) {b : Nat} (hb : (hh.set rb R) b = none) (cs : List Value) :
    OwnS ((hh.set rb R).set b ⟨cs, TK⟩) sl (tcs acc) TK 5 := by
  refine own_set (own_set I.own (fun z hz => (I.fresh z hz).1) R) (fun z hz e => ?_) _
  rcases I.own with ⟨h1, _⟩ | ⟨c, o', h1, h2, _⟩
  · rw [h1] at hz; cases hz
  · rw [h1] at hz; cases hz
    subst e
    rw [set_ne _ (I.fresh _ h1).1] at hb
    rw [h2] at hb; cases hb
/-- A token more: memory, behind. -/
theorem tk_more {h : Hp} {s : List UInt8} {rb : Nat} {sl : Slc} {i m : Nat} {acc : List Tok} {hh : Hp} (I : TkI h s rb sl i m acc hh) {R : HO} {b : Nat} (hb : (hh.set rb R) b = none) {cs : List Value} {sl' : Slc} {k : Hp}
    (h3 : ∀ x, sl'.a = some x → (∃ z, sl.a = some z ∧ z.1 = x.1) ∨ ((hh.set rb R).set b ⟨cs, TK⟩) x.1 = none) (h4 : ∀ c o, (∀ x, sl.a = some x → x.1 ≠ c) → ((hh.set rb R).set b ⟨cs, TK⟩) c = some o → k c = some o) :
    k rb = some R ∧ HLe h k ∧ ∀ z, sl'.a = some z → z.1 ≠ rb ∧ h z.1 = none := by
  have nb : rb ≠ b := fun e => by rw [← e, set_same] at hb; cases hb
  refine ⟨h4 rb R (fun x hx => (I.fresh x hx).1) (by rw [set_ne _ nb, set_same]), fun c o hc => ?_, fun z hz => ?_⟩
  · have n1 : c ≠ rb := fun e => by rw [e, I.nrb] at hc; cases hc
    have n2 : c ≠ b := fun e => by rw [← e, set_ne _ n1, I.kept c o hc] at hb; cases hb
    refine h4 c o (fun x hx e => ?_) (by rw [set_ne _ n2, set_ne _ n1]; exact I.kept c o hc)
    have := (I.fresh x hx).2
    rw [e, hc] at this; cases this
  · rcases h3 z hz with ⟨y, hy, e⟩ | hn
    · rw [← e]; exact I.fresh y hy
    · have n2 : z.1 ≠ b := fun e => by rw [e, set_same] at hn; cases hn
      rw [set_ne _ n2] at hn
      have n1 : z.1 ≠ rb := fun e => by rw [e, set_same] at hn; cases hn
      rw [set_ne _ n1] at hn
      refine ⟨n1, ?_⟩
      cases hq : h z.1 with
      | none => rfl
      | some o => rw [I.kept _ _ hq] at hn; cases hn
theorem pl_add {s : List UInt8} {i j : Nat} (h1 : i ≤ j) (h2 : j ≤ s.length) : adv (pl s i) (sub s i j) = pl s j := by
  unfold pl
  rw [← adv_app, ← sub_sub s (Nat.zero_le i) h1 h2]
/-- A token more. -/
theorem tk_next {h : Hp} {s : List UInt8} {rb : Nat} {sl : Slc} {i m j : Nat} {acc : List Tok} {hh : Hp} (I : TkI h s rb sl i m acc hh) (hj : j = i + ski false s i) (hjl : j < s.length) (hf : (one s j).f = 0) {R : HO} {b : Nat} (hb : (hh.set rb R) b = none) {cs : List Value} {sl' : Slc} {k : Hp}
    (h1 : OwnS k sl' (tcs acc ++ (Tok.mk (one s j).k (pl s j).1 (pl s j).2 (one s j).n (one s j).x).cs) TK 5) (h2 : sl'.n = sl.n + 1)
    (h3 : ∀ x, sl'.a = some x → (∃ z, sl.a = some z ∧ z.1 = x.1) ∨ ((hh.set rb R).set b ⟨cs, TK⟩) x.1 = none) (h4 : ∀ c o, (∀ x, sl.a = some x → x.1 ≠ c) → ((hh.set rb R).set b ⟨cs, TK⟩) c = some o → k c = some o) :
    k = k.set rb R ∧ i < (one s j).e ∧ (one s j).e ≤ s.length ∧
      TkI h s rb sl' (one s j).e (m - 1) (acc ++ [Tok.mk (one s j).k (pl s j).1 (pl s j).2 (one s j).n (one s j).x]) k := by
  obtain ⟨e1, e2, e3⟩ := tk_more I hb h3 h4
  obtain ⟨o1, o2, o3⟩ := one_ok hjl hf
  have hm := I.fuel
  have hle := I.le
  obtain ⟨m', rfl⟩ : ∃ m', m = m' + 1 := ⟨m - 1, by omega⟩
  have p1 : adv (pl s i) (sub s i (one s j).e) = pl s (one s j).e := pl_add (by omega) o2
  have p2 : adv (pl s i) (sub s i j) = pl s j := pl_add (by omega) (by omega)
  refine ⟨set_self e1, by omega, o2, ⟨o2, by omega, by have := I.cnt; simp; omega, ?_, by rw [tcs_app, tcs_one]; exact h1, by rw [h2, I.n]; simp, e3, e2, I.nrb⟩⟩
  rw [I.all, lexA, ← hj, if_neg (by omega), if_pos hf, p1, p2]
  rfl
theorem pl_bd {s : List UInt8} {i : Nat} (hi : i ≤ s.length) : 0 ≤ (pl s i).1 ∧ (pl s i).1 ≤ 1 + i ∧ 0 ≤ (pl s i).2 ∧ (pl s i).2 ≤ 1 + i := by
  have := adv_bd (1, 1) (sub s 0 i) (by decide) (by decide)
  rw [sub_len s hi] at this
  unfold pl
  simp at this ⊢
  omega
theorem pl_tok {s : List UInt8} {j : Nat} (hj : j < s.length) (hf : (one s j).f = 0) : pl s (one s j).e = ((pl s j).1, (pl s j).2 + ((one s j).e : Int) - j) := by
  unfold pl
  exact one_adv (1, 1) (Nat.zero_le j) hj hf
/-- A token is put behind the others. -/
theorem tk_app {E : Env} {C : Ctx} {x y : LE} {f : Fm} {h : Hp} {s : List UInt8} {rb : Nat} {sl : Slc} {i m : Nat} {acc : List Tok} {hh : Hp} (I : TkI h s rb sl i m acc hh) (hlen : s.length ≤ 100000) {R : HO} {b : Nat} (hb : (hh.set rb R) b = none) {cs : List Value} (hc : cs.length = 5) (ho : Ones cs)
    (hx : x.den C = sl) (hy : y.den C = ⟨some (b, 0), 1, 1⟩) (hC : C.h = (hh.set rb R).set b ⟨cs, TK⟩)
    (hk : ∀ s' k', OwnS k' s' (tcs acc ++ cs) TK 5 → s'.n = sl.n + 1 → (∀ x, s'.a = some x → (∃ z, sl.a = some z ∧ z.1 = x.1) ∨ ((hh.set rb R).set b ⟨cs, TK⟩) x.1 = none) → (∀ c o, (∀ x, sl.a = some x → x.1 ≠ c) → ((hh.set rb R).set b ⟨cs, TK⟩) c = some o → k' c = some o) → f.says E ((C.push ⟨[], [], [], [], [s'], []⟩).heap k')) :
    (Fm.app x y 5 48 TK f).says E C := by
  have h1 := I.n
  have h2 := I.cnt
  have h3 := I.le
  rw [says_app, hx, hy, hC]
  refine ⟨tcs acc, cs, tk_own I R hb cs, ⟨by simp, ?_⟩, ho, ?_, ?_, hk⟩
  · rw [hread_set, if_pos (by simp [hc])]
    simp [List.take_of_length_le, hc]
  · show sl.n + 1 ≤ maxLen
    unfold maxLen; omega
  · show (sl.n + 1) * 48 ≤ _
    omega
theorem Tok.ones (t : Tok) : Ones t.cs := by
  intro u hu
  simp only [Tok.cs, List.mem_cons, List.not_mem_nil, or_false] at hu
  rcases hu with rfl | rfl | rfl | rfl | rfl <;> rfl
theorem tk_push {E : Env} {h : Hp} {s : List UInt8} {rb : Nat} {sl : Slc} {i m j : Nat} {acc : List Tok} {hh : Hp} (I : TkI h s rb sl i m acc hh) (hlen : s.length ≤ 100000) (ei : E.inv = tkInv h s) (em : E.meas = fun _ C => (s.length - atOf C.h (rbOf C)).toNat) (hj : j = i + ski false s i) (hjl : j < s.length) (hf : (one s j).f = 0)
    {l0 : Slc} {is : List Int} {bs : List Bool} {ss : List (List UInt8)} {M : Nat → Nat} {x0 x1 x2 : Int} {cs : List CE} {e L Co : Int} (he : e = (one s j).e) (hL : L = (pl s (one s j).e).1) (hCo : Co = (pl s (one s j).e).2) (hM : M 0 = ((s.length : Int) - i).toNat)
    (hcs : cs.map (CE.den ⟨x0 :: x1 :: x2 :: is, bs, s :: ss, [], [l0, sl], [some (rb, 0)], hh.set rb ⟨[.string (B s), .int .i64 e, .int .i64 L, .int .i64 Co], RD⟩, M⟩ noOwn) = (Tok.mk (one s j).k (pl s j).1 (pl s j).2 (one s j).n (one s j).x).cs) :
    (Fm.mk cs TK 1 (.app (.x 1) (.x 2) 5 48 TK (.again 0 ⟨0, 0, 1, 0, 0, 1⟩ ⟨3, 0, 1, 0, 2, 1⟩ ⟨[(.x 0), (.x 1), (.x 2)], [], [], [], [(.x 0), (.x 3)], []⟩))).says E
      ⟨x0 :: x1 :: x2 :: is, bs, s :: ss, [], [l0, sl], [some (rb, 0)], hh.set rb ⟨[.string (B s), .int .i64 e, .int .i64 L, .int .i64 Co], RD⟩, M⟩ := by
  subst he hL hCo
  rw [says_mk, hcs]
  intro b hb
  refine tk_app I hlen (b := b) hb rfl (Tok.ones _) rfl rfl rfl ?_
  intro s' k' h1 h2 h3 h4
  obtain ⟨q1, q2, q3, q4⟩ := tk_next I hj hjl hf hb h1 h2 h3 h4
  rw [says_again, ei, em]
  refine ⟨⟨x0, x1, x2, l0, s', rb, (one s j).e, m - 1, _, k', ?_, q4⟩, ?_⟩
  · have e : rc s ((one s j).e : Nat) (pl s (one s j).e).1 (pl s (one s j).e).2 = [.string (B s), .int .i64 ((one s j).e : Nat), .int .i64 (pl s (one s j).e).1, .int .i64 (pl s (one s j).e).2] := rfl
    rw [e, ← q1]
    rfl
  · show ((s.length : Int) - atOf k' rb).toNat < M 0
    have e : atOf k' rb = ((one s j).e : Nat) := by
      rw [q1]; exact atOf_set _ _ _ _ _ _ _
    rw [e, hM]; omega
end Go.Proofs.YthlakehilhpojaaGreatDoor
namespace Go.Proofs.YthlakehilhpojaaGreatDoor
open Go.RowKit
attribute [local go_sem] says_tt says_ff th_need th_ite th_call th_callK th_load th_store th_mk th_new th_mks th_str says_ret says_again says_app BE.den IE.den SE.den LE.den AE.den CE.den PE.den VE.den KV.val Got.den Got.cnt exI allI exL allL Ctx.push Ctx.heap Ctx.cut Ctx.bare Ctx.mark Inc.blank List.getD_cons_zero List.getD_cons_succ List.cons_append List.nil_append List.append_nil List.map_cons List.map_nil List.replicate_zero List.replicate_succ specOf ltB_t leB_t ltB_f leB_f slc_val slc_nil slc_inj pt_val pt_nil hle_noHeap hle_refl hread_set hwrite_set set_same set_set noHeap_at B_inj ones_nil and_assoc
/-- Tokens, as they stand from a place on. -/
def Pls (s : List UInt8) : Nat → List Tok → Prop
  | _, [] => False
  | i, t :: l => i + ski false s i ≤ s.length ∧ (t.l, t.c) = pl s (i + ski false s i) ∧
    ((i + ski false s i = s.length ∧ t.k = 8 ∧ l = []) ∨
      (i + ski false s i < s.length ∧ (one s (i + ski false s i)).f = 0 ∧ t.k = (one s (i + ski false s i)).k ∧ t.n = (one s (i + ski false s i)).n ∧ t.x = (one s (i + ski false s i)).x ∧ t.k ≠ 8 ∧ l ≠ [] ∧ Pls s (one s (i + ski false s i)).e l))
theorem nfin_k {k most : Int} {d : List UInt8} {e : Nat} (h : (nfin k most d e).1 = 0) : (nfin k most d e).2.1 = k := by
  unfold nfin at h ⊢
  split
  · rfl
  · rename_i h1; rw [if_neg h1] at h; exact absurd h (by decide)
theorem one_k {s : List UInt8} {i : Nat} (h : (one s i).f = 0) : (one s i).k ≠ 8 := by
  unfold one at h ⊢
  split
  · simp only; unfold nameK; split
    · decide
    · split <;> decide
  · rename_i h1
    rw [if_neg h1] at h
    split
    · rename_i h2
      rw [if_pos h2] at h
      simp only at h ⊢
      unfold nm at h ⊢
      split
      · rename_i h3; rw [if_pos h3] at h; rw [nfin_k h]; decide
      · rename_i h3
        rw [if_neg h3] at h
        split
        · rename_i h4; rw [if_pos h4] at h; rw [nfin_k h]; decide
        · rename_i h4; rw [if_neg h4] at h; exact absurd h (by decide)
    · rename_i h2
      rw [if_neg h2] at h
      split
      · rename_i h3
        rw [if_pos h3] at h
        cases hq : rdq (s.drop i) with
        | none => rw [hq] at h; simp at h
        | some r => simp
      · rename_i h3
        rw [if_neg h3] at h
        split
        · rename_i h4; rw [if_pos h4] at h; simp at h
        · simp
theorem lexA_pls : ∀ (m : Nat) (s : List UInt8) (i : Nat) (acc : List Tok), i ≤ s.length → s.length < m + i → (lexA m s i (pl s i) acc).1.1 = 0 → ∃ l, (lexA m s i (pl s i) acc).2 = acc ++ l ∧ Pls s i l
  | 0, s, i, acc, hi, hm, _ => by omega
  | m + 1, s, i, acc, hi, hm, h => by
    have hj := ski_le (s := s) (i := i) false hi
    rw [lexA] at h ⊢
    rw [pl_add (Nat.le_add_right i _) hj] at h ⊢
    split
    · rename_i h1
      exact ⟨[_], rfl, hj, rfl, .inl ⟨by omega, rfl, rfl⟩⟩
    · rename_i h1
      rw [if_neg h1] at h
      split
      · rename_i h2
        rw [if_pos h2] at h
        obtain ⟨o1, o2, _⟩ := one_ok (by omega) h2
        rw [pl_add (by omega) o2] at h ⊢
        obtain ⟨l, hl, hp⟩ := lexA_pls m s _ _ o2 (by omega) h
        refine ⟨_ :: l, by rw [hl]; simp; rfl, hj, rfl, .inr ⟨by omega, h2, rfl, rfl, rfl, one_k h2, ?_, hp⟩⟩
        rintro rfl
        exact hp
      · rename_i h2
        rw [if_neg h2] at h
        exact absurd h h2
theorem pl_step {s : List UInt8} {j : Nat} (hj : j < s.length) : pl s (j + 1) = ad (pl s j) (bt s j) := by
  unfold pl; exact adv_snoc (1, 1) s (Nat.zero_le j) hj
theorem pl_lt {s : List UInt8} {p : Nat} : ∀ {j : Nat}, p < j → j ≤ s.length → (pl s p).1 < (pl s j).1 ∨ ((pl s p).1 = (pl s j).1 ∧ (pl s p).2 < (pl s j).2)
  | 0, h, _ => by omega
  | j + 1, h, hj => by
    rw [pl_step (by omega)]
    have hs : (pl s j).1 < (ad (pl s j) (bt s j)).1 ∨ ((pl s j).1 = (ad (pl s j) (bt s j)).1 ∧ (pl s j).2 < (ad (pl s j) (bt s j)).2) := by
      unfold ad; split
      · left; simp; omega
      · right; simp; omega
    by_cases e : p = j
    · subst e; exact hs
    · have := pl_lt (s := s) (p := p) (j := j) (by omega) (by omega)
      omega
theorem hread_sub {h : Hp} {b o n : Nat} {cs : List Value} (hr : hread h (some (b, o)) n = some cs) {k m : Nat} (hk : k + m ≤ n) : hread h (some (b, o + k)) m = some ((cs.drop k).take m) := by
  unfold hread at hr ⊢
  simp only at hr ⊢
  cases hb : h b with
  | none => rw [hb] at hr; cases hr
  | some x =>
    rw [hb] at hr
    simp only at hr ⊢
    split at hr
    · rename_i hle
      cases hr
      rw [if_pos (by omega), List.drop_take, List.take_take, List.drop_drop, Nat.min_eq_left (by omega)]
    · cases hr
end Go.Proofs.YthlakehilhpojaaGreatDoor
namespace Go.Proofs.YthlakehilhpojaaGreatDoor
open Go.RowKit
/-- A token of a text, but the last one. -/
def TokIn (s : List UInt8) (t : Tok) : Prop := ∃ j, j < s.length ∧ (one s j).f = 0 ∧ t.k = (one s j).k ∧ t.n = (one s j).n ∧ t.x = (one s j).x ∧ t.k ≠ 8
theorem pls_lw {s : List UInt8} : ∀ {l : List Tok} {i : Nat}, Pls s i l → LW l ∧ ∀ t ∈ l, t.k = 8 ∨ TokIn s t
  | [], _, h => by cases h
  | t :: l, i, ⟨_, _, h3⟩ => by
    rcases h3 with ⟨_, h5, rfl⟩ | ⟨h4, h5, h6, h7, h8, h9, h10, h11⟩
    · refine ⟨⟨by simp, by simpa using h5⟩, fun u hu => ?_⟩
      rw [List.mem_singleton] at hu; subst hu; exact .inl h5
    · obtain ⟨⟨p, q⟩, r⟩ := pls_lw h11
      refine ⟨⟨by simp, ?_⟩, fun u hu => ?_⟩
      · obtain ⟨n, hn⟩ : ∃ n, l.length = n + 1 := ⟨l.length - 1, by omega⟩
        rw [List.length_cons, hn, Nat.add_sub_cancel, List.getD_cons_succ]
        rw [hn, Nat.add_sub_cancel] at q
        exact q
      · rcases List.mem_cons.mp hu with rfl | hu
        · exact .inr ⟨_, h4, h5, h6, h7, h8, h9⟩
        · exact r u hu
theorem pl_zero (s : List UInt8) : pl s 0 = (1, 1) := by simp [pl, sub]; rfl
theorem lexAll_pls {s : List UInt8} (h : (lexAll s).1.1 = 0) : Pls s 0 (lexAll s).2 := by
  unfold lexAll at h ⊢
  rw [← pl_zero s] at h ⊢
  obtain ⟨l, h1, h2⟩ := lexA_pls (s.length + 1) s 0 [] (Nat.zero_le _) (by omega) h
  rw [h1]; exact h2
/-- A word begins with a letter. -/
theorem tok_word {s : List UInt8} {t : Tok} (h : TokIn s t) (h6 : t.k = 6) : ∃ c r, t.x = c :: r ∧ (kdi c.toNat = 1 ∨ kdi c.toNat = 2) := by
  obtain ⟨j, hj, hf, hk, _, hx, _⟩ := h
  rw [hk] at h6
  rw [hx]
  unfold one at h6 hf ⊢
  by_cases h1 : kdi (bt s j) = 1 ∨ kdi (bt s j) = 2
  · rw [if_pos h1] at h6 ⊢
    obtain ⟨c, r, hd⟩ : ∃ c r, s.drop j = c :: r := by
      cases hq : s.drop j with
      | nil => exfalso; have := congrArg List.length hq; rw [List.length_drop] at this; simp at this; omega
      | cons c r => exact ⟨c, r, rfl⟩
    have hb : bt s j = (c.toNat : Int) := by
      have : s[j]? = some c := by rw [← List.head?_drop, hd]; rfl
      unfold bt; rw [List.getD_eq_getElem?_getD, this]; rfl
    rw [hb] at h1
    have hi : inB (c.toNat : Int) = true := by unfold inB; rw [decide_eq_true_eq]; omega
    refine ⟨c, r.take (rn inB s j - 1), ?_, h1⟩
    have hr : 1 ≤ rn inB s j := by
      unfold rn; rw [hd, List.takeWhile_cons]; simp only [hi, if_true]; simp
    have e : sub s j (j + rn inB s j) = (s.drop j).take (rn inB s j) := by
      unfold sub; rw [List.drop_take]; congr 1; omega
    obtain ⟨m, hm⟩ : ∃ m, rn inB s j = m + 1 := ⟨rn inB s j - 1, by omega⟩
    rw [e, hd, hm]; rfl
  · rw [if_neg h1] at h6 hf
    exfalso
    split at h6
    · rename_i h2
      rw [if_pos h2] at hf
      simp only at h6 hf
      unfold nm at h6 hf
      split at h6
      · rename_i h3; rw [if_pos h3] at hf; rw [nfin_k hf] at h6; exact absurd h6 (by decide)
      · rename_i h3
        rw [if_neg h3] at hf
        split at h6
        · rename_i h4; rw [if_pos h4] at hf; rw [nfin_k hf] at h6; exact absurd h6 (by decide)
        · rename_i h4; rw [if_neg h4] at hf; exact absurd hf (by decide)
    · split at h6
      · cases hq : rdq (s.drop j) with
        | none => rw [hq] at h6; simp at h6
        | some r => rw [hq] at h6; simp at h6
      · split at h6 <;> simp at h6
end Go.Proofs.YthlakehilhpojaaGreatDoor
namespace Go.Proofs.YthlakehilhpojaaGreatDoor
open Go.RowKit
section
variable {L : List Tok}
/-- A node's place is a token's, but that of a result that isn't there. -/
def Plc (L : List Tok) (x : Nod) : Prop := (∃ a, a < L.length ∧ x.l = (L.getD a ⟨8, 0, 0, 0, []⟩).l ∧ x.c = (L.getD a ⟨8, 0, 0, 0, []⟩).c) ∨ (x.k = 14 ∧ x.l = 0 ∧ x.c = 0)
def PlcT (L : List Tok) (t : Tr) : Prop := ∀ x ∈ t.nods, Plc L x
def PlcS (L : List Tok) (l : List Tr) : Prop := ∀ x ∈ Tr.nodss l, Plc L x
/-- Of an expression. -/
def Kd (t : Tr) : Prop := 21 ≤ t.k ∧ t.k ≤ 32
def Tr.n (t : Tr) : Nat := t.nods.length
def Tr.ns (l : List Tr) : Nat := (Tr.nodss l).length
theorem nodss_app : ∀ a b : List Tr, Tr.nodss (a ++ b) = Tr.nodss a ++ Tr.nodss b
  | [], b => rfl
  | t :: a, b => by simp [Tr.nodss, nodss_app a b]
theorem nodss_nil : Tr.nodss [] = [] := rfl
theorem nodss_cons (t : Tr) (l : List Tr) : Tr.nodss (t :: l) = t.nods ++ Tr.nodss l := rfl
theorem n_nd (k : Int) (t : Tok) (n : Int) (x : List UInt8) (ks : List Tr) : (nd k t n x ks).n = Tr.ns ks + 1 := by simp [nd, Tr.n, Tr.ns, Tr.nods]
theorem ns_nil : Tr.ns [] = 0 := rfl
theorem ns_cons (t : Tr) (l : List Tr) : Tr.ns (t :: l) = t.n + Tr.ns l := by simp [Tr.n, Tr.ns, nodss_cons]
theorem ns_app (a b : List Tr) : Tr.ns (a ++ b) = Tr.ns a + Tr.ns b := by simp [Tr.ns, nodss_app]
theorem plcS_nil : PlcS L [] := fun _ h => by cases h
theorem plcS_cons {t : Tr} {l : List Tr} (h : PlcT L t) (k : PlcS L l) : PlcS L (t :: l) := fun x hx => by
  rw [nodss_cons] at hx
  rcases List.mem_append.1 hx with hx | hx
  · exact h x hx
  · exact k x hx
theorem plcS_app {a b : List Tr} (h : PlcS L a) (k : PlcS L b) : PlcS L (a ++ b) := fun x hx => by
  rw [nodss_app] at hx
  rcases List.mem_append.1 hx with hx | hx
  · exact h x hx
  · exact k x hx
theorem plcS_one {t : Tr} (h : PlcT L t) : PlcS L [t] := plcS_cons h plcS_nil
theorem plcT_nd {p : PS} (hv : p.a < L.length) {k n : Int} {x : List UInt8} {ks : List Tr} (h : PlcS L ks) : PlcT L (nd k (tk L p) n x ks) := fun y hy => by
  unfold nd at hy
  rw [Tr.nods] at hy
  rcases List.mem_cons.1 hy with rfl | hy
  · exact .inl ⟨p.a, hv, rfl, rfl⟩
  · exact h y hy
theorem bad_back {p q : PS} {e : Int} (h : Adv L p q e) (hq : q.bad = false) : p.bad = false := by
  cases c : p.bad with
  | false => rfl
  | true => rw [bad_f (h.b c), c] at hq; cases hq
theorem good_pass {p : PS} (h : (tk L p).k ≠ 8) : (pPass L p).a = p.a + 1 := by unfold pPass; rw [if_neg h]
theorem good_must {s : List UInt8} {p : PS} (h : (pMust L s p).bad = false) : pIs L s p = true ∧ pMust L s p = pPass L p ∧ (pMust L s p).a = p.a + 1 := by
  unfold pMust at h ⊢
  split at h
  · rename_i c
    rw [if_pos c]
    exact ⟨c, rfl, good_pass (is_k c).2⟩
  · rw [bad_fail (by decide) p] at h; cases h
theorem good_open {s : List UInt8} {p : PS} (h : (pOpen L s p).bad = false) : pIs L s p = true ∧ p.d ≠ 40 ∧ pOpen L s p = { pPass L p with d := (pPass L p).d + 1 } ∧ (pOpen L s p).a = p.a + 1 := by
  unfold pOpen at h ⊢
  by_cases c : (pIs L s p && p.d == 40) = true
  · simp only [c, if_true] at h
    have hb : (pFail L 6 p).bad = true := bad_fail (by decide) p
    have h' : (pMust L s (pFail L 6 p)).bad = false := h
    have := (good_must h').1
    rw [bad_is hb] at this; cases this
  · simp only [if_neg c] at h ⊢
    have h' : (pMust L s p).bad = false := h
    obtain ⟨h1, h2, h3⟩ := good_must h'
    refine ⟨h1, fun e => c (by rw [h1, e]; rfl), by rw [h2], h3⟩
theorem good_shut {s : List UInt8} {p : PS} (h : (pShut L s p).bad = false) : pIs L s p = true ∧ pShut L s p = { pPass L p with d := (pPass L p).d - 1 } ∧ (pShut L s p).a = p.a + 1 := by
  have h' : (pMust L s p).bad = false := h
  obtain ⟨h1, h2, h3⟩ := good_must h'
  exact ⟨h1, by unfold pShut; rw [h2], h3⟩
theorem good_word {k : Int} (hk : k ≠ 8) {p : PS} (h : (pWord L k p).bad = false) : p.bad = false ∧ (tk L p).k = k ∧ pWord L k p = pPass L p ∧ (pWord L k p).a = p.a + 1 := by
  unfold pWord at h ⊢
  split at h
  · rw [bad_fail (by decide) p] at h; cases h
  · rename_i c
    rw [if_neg c]
    simp only [Bool.or_eq_true, Bool.not_eq_true', beq_eq_false_iff_ne, not_or] at c
    have c2 : (tk L p).k = k := by have := c.2; simp at this; exact this
    exact ⟨by simpa using c.1, c2, rfl, good_pass (by omega)⟩
theorem no_fail {e : Int} (he : e ≠ 0) {p : PS} (h : (pFail L e p).bad = false) : False := by rw [bad_fail he p] at h; cases h
/-- A tree that was read: it has no more nodes than tokens were taken; where they are. -/
structure Red (L : List Tok) (p : PS) (t : Tr) (q : PS) : Prop where
  cnt : q.bad = false → t.n + p.a ≤ q.a
  plc : p.a < L.length → PlcT L t
/-- A tree that stands behind another one. -/
structure RedX (L : List Tok) (p : PS) (x t : Tr) (q : PS) : Prop where
  cnt : q.bad = false → t.n + p.a ≤ q.a + x.n
  plc : p.a < L.length → PlcT L x → PlcT L t
  kd : Kd x → Kd t
structure RedS (L : List Tok) (p : PS) (a l : List Tr) (q : PS) : Prop where
  cnt : q.bad = false → Tr.ns l + p.a ≤ q.a + Tr.ns a
  plc : p.a < L.length → PlcS L a → PlcS L l
theorem red_leaf {p q : PS} {k n : Int} {x : List UInt8} (h : q.bad = false → 1 + p.a ≤ q.a) : Red L p (nd k (tk L p) n x []) q := ⟨fun hq => by rw [n_nd, ns_nil]; have := h hq; omega, fun hv => plcT_nd hv plcS_nil⟩
theorem red_kind (H : LW L) : ∀ (n : Nat) (p : PS) {t : Tr} {q : PS}, pKind L n p = some (t, q) → Red L p t q ∧ 15 ≤ t.k ∧ t.k ≤ 20
  | 0, p, t, q, h => by cases h
  | n + 1, p, t, q, h => by
    have kk : ∀ (k : Int) (u : Tok) (m : Int) (x : List UInt8) (ks : List Tr), (nd k u m x ks).k = k := fun _ _ _ _ _ => rfl
    rw [pKind] at h
    have pas : ∀ {k m : Int} {x : List UInt8} {s : List UInt8}, pIs L s p = true → Red L p (nd k (tk L p) m x []) (pPass L p) := fun c => red_leaf fun _ => by rw [good_pass (is_k c).2]; omega
    split at h
    · rename_i c
      cases h; exact ⟨red_leaf fun hq => (by rw [c] at hq; cases hq), by rw [kk]; omega⟩
    split at h
    · cases h; exact ⟨pas (by assumption), by rw [kk]; omega⟩
    split at h
    · cases h; exact ⟨pas (by assumption), by rw [kk]; omega⟩
    split at h
    · cases h; exact ⟨pas (by assumption), by rw [kk]; omega⟩
    split at h
    · cases h; exact ⟨pas (by assumption), by rw [kk]; omega⟩
    split at h
    · rename_i c
      cases h; exact ⟨red_leaf fun _ => by rw [good_pass (by omega)]; omega, by rw [kk]; omega⟩
    split at h
    · simp only [Option.map_eq_some_iff] at h
      obtain ⟨⟨x, r⟩, h1, h2⟩ := h
      cases h2
      obtain ⟨R, _, _⟩ := red_kind H n _ h1
      refine ⟨⟨fun hq => ?_, fun hv => ?_⟩, by rw [kk]; omega⟩
      · obtain ⟨_, _, g3⟩ := good_shut hq
        have hr := bad_back (adv_shut H [93] r) hq
        have := R.cnt hr
        obtain ⟨_, _, _, g4⟩ := good_open (bad_back (adv_kind H n _ h1) hr)
        rw [n_nd, ns_cons, ns_nil]; dsimp only at *; omega
      · exact plcT_nd hv (plcS_one (R.plc ((adv_open H _ p).v hv)))
    · cases h; exact ⟨red_leaf fun hq => (no_fail (by decide) hq).elim, by rw [kk]; omega⟩
def RedE (L : List Tok) (n : Nat) : Prop :=
  (∀ lvl p t q, pBin L n lvl p = some (t, q) → Red L p t q ∧ Kd t) ∧ (∀ lvl x p t q, pBinL L n lvl x p = some (t, q) → RedX L p x t q) ∧ (∀ p t q, pUn L n p = some (t, q) → Red L p t q ∧ Kd t) ∧
  (∀ x p t q, pPost L n x p = some (t, q) → RedX L p x t q) ∧ (∀ p t q, pAtom L n p = some (t, q) → Red L p t q ∧ Kd t) ∧ (∀ f acc p l q, pArgs L n f acc p = some (l, q) → RedS L p acc l q)
theorem kd_nd {k : Int} (h : 21 ≤ k ∧ k ≤ 32) (t : Tok) (n : Int) (x : List UInt8) (ks : List Tr) : Kd (nd k t n x ks) := h
theorem redE (H : LW L) : ∀ n, RedE L n
  | 0 => ⟨fun _ _ _ _ h => (by cases h), fun _ _ _ _ _ h => (by cases h), fun _ _ _ h => (by cases h), fun _ _ _ _ h => (by cases h), fun _ _ _ h => (by cases h), fun _ _ _ _ _ h => (by cases h)⟩
  | n + 1 => by
    obtain ⟨i1, i2, i3, i4, i5, i6⟩ := redE H n
    obtain ⟨a1, a2, a3, a4, a5, a6⟩ := advE H n
    refine ⟨fun lvl p t q h => ?_, fun lvl x p t q h => ?_, fun p t q h => ?_, fun x p t q h => ?_, fun p t q h => ?_, fun f acc p l q h => ?_⟩
    · rw [pBin] at h
      split at h
      · exact i3 _ _ _ h
      · simp only [Option.bind_eq_some_iff] at h
        obtain ⟨⟨y, r⟩, h1, h2⟩ := h
        obtain ⟨R, K⟩ := i1 _ _ _ _ h1
        have S := i2 _ _ _ _ _ h2
        refine ⟨⟨fun hq => ?_, fun hv => S.plc ((a1 _ _ _ _ h1).v hv) (R.plc hv)⟩, S.kd K⟩
        have := S.cnt hq
        have := R.cnt (bad_back (a2 _ _ _ _ _ h2) hq)
        dsimp only at *; omega
    · rw [pBinL] at h
      split at h
      · cases h; exact ⟨fun _ => by omega, fun _ h => h, id⟩
      · rename_i c
        simp only [Option.bind_eq_some_iff] at h
        obtain ⟨⟨y, r⟩, h1, h2⟩ := h
        obtain ⟨R, K⟩ := i1 _ _ _ _ h1
        have gp := good_pass (op_bad c).2
        have key : RedX L p x (nd 31 (tk L p) (pOp L lvl p) [] [x, y]) r := by
          refine ⟨fun hq => ?_, fun hv hx => ?_, fun _ => kd_nd (by omega) _ _ _ _⟩
          · have := R.cnt hq
            rw [n_nd, ns_cons, ns_cons, ns_nil]; omega
          · exact plcT_nd hv (plcS_cons hx (plcS_one (R.plc ((adv_pass H p).v hv))))
        split at h2
        · cases h2; exact key
        · have S := i2 _ _ _ _ _ h2
          refine ⟨fun hq => ?_, fun hv hx => S.plc ((a1 _ _ _ _ h1).v ((adv_pass H p).v hv)) (key.plc hv hx), fun k => S.kd (key.kd k)⟩
          have := S.cnt hq
          have := key.cnt (bad_back (a2 _ _ _ _ _ h2) hq)
          dsimp only at *; omega
    · have un : ∀ {s : List UInt8} {m : Int}, pIs L s p = true → (pUn L n (pOpen L (tk L p).x p)).map (fun r => (nd 30 (tk L p) m [] [r.1], { r.2 with d := r.2.d - 1 })) = some (t, q) → Red L p t q ∧ Kd t := by
        intro s m c h
        simp only [Option.map_eq_some_iff] at h
        obtain ⟨⟨y, r⟩, h1, h2⟩ := h
        cases h2
        obtain ⟨R, K⟩ := i3 _ _ _ h1
        refine ⟨⟨fun hq => ?_, fun hv => plcT_nd hv (plcS_one (R.plc ((adv_open H _ p).v hv)))⟩, kd_nd (by omega) _ _ _ _⟩
        have hr : r.bad = false := hq
        have := R.cnt hr
        obtain ⟨_, _, _, g4⟩ := good_open (bad_back (a3 _ _ _ h1) hr)
        rw [n_nd, ns_cons, ns_nil]
        show _ ≤ r.a
        dsimp only at *; omega
      rw [pUn] at h
      split at h
      · exact un (by assumption) h
      · split at h
        · exact un (by assumption) h
        · simp only [Option.bind_eq_some_iff] at h
          obtain ⟨⟨y, r⟩, h1, h2⟩ := h
          obtain ⟨R, K⟩ := i5 _ _ _ h1
          have S := i4 _ _ _ _ h2
          refine ⟨⟨fun hq => ?_, fun hv => S.plc ((a5 _ _ _ h1).v hv) (R.plc hv)⟩, S.kd K⟩
          have := S.cnt hq
          have := R.cnt (bad_back (a4 _ _ _ _ h2) hq)
          dsimp only at *; omega
    · rw [pPost] at h
      split at h
      · simp only [Option.bind_eq_some_iff] at h
        obtain ⟨⟨y, r⟩, h1, h2⟩ := h
        obtain ⟨R, K⟩ := i1 _ _ _ _ h1
        have S := i4 _ _ _ _ h2
        refine ⟨fun hq => ?_, fun hv hx => S.plc ((adv_shut H [93] r).v ((a1 _ _ _ _ h1).v ((adv_open H _ p).v hv))) (plcT_nd hv (plcS_cons hx (plcS_one (R.plc ((adv_open H _ p).v hv))))), fun _ => S.kd (kd_nd (by omega) _ _ _ _)⟩
        have e1 := S.cnt hq
        have hs := bad_back (a4 _ _ _ _ h2) hq
        obtain ⟨_, _, g3⟩ := good_shut hs
        have hr := bad_back (adv_shut H [93] r) hs
        have := R.cnt hr
        obtain ⟨_, _, _, g4⟩ := good_open (bad_back (a1 _ _ _ _ h1) hr)
        rw [n_nd, ns_cons, ns_cons, ns_nil] at e1
        dsimp only at *; omega
      · split at h
        · rename_i c
          have S := i4 _ _ _ _ h
          refine ⟨fun hq => ?_, fun hv hx => S.plc ((adv_word H 1 _).v ((adv_pass H p).v hv)) (plcT_nd hv (plcS_one hx)), fun _ => S.kd (kd_nd (by omega) _ _ _ _)⟩
          have e1 := S.cnt hq
          have hs := bad_back (a4 _ _ _ _ h) hq
          obtain ⟨_, _, _, g4⟩ := good_word (by decide) hs
          have g5 := good_pass (is_k c).2
          rw [n_nd, ns_cons, ns_nil] at e1
          omega
        · cases h; exact ⟨fun _ => by omega, fun _ h => h, id⟩
    · rw [pAtom] at h
      have leaf : ∀ {k m : Int} {x : List UInt8}, 21 ≤ k ∧ k ≤ 32 → (tk L p).k ≠ 8 → Red L p (nd k (tk L p) m x []) (pPass L p) ∧ Kd (nd k (tk L p) m x []) := fun hk h8 => ⟨red_leaf fun _ => by rw [good_pass h8]; omega, kd_nd hk _ _ _ _⟩
      by_cases c : p.bad = true
      · rw [if_pos c] at h; cases h
        exact ⟨red_leaf fun hq => (by rw [c] at hq; cases hq), kd_nd (by omega) _ _ _ _⟩
      rw [if_neg c] at h; clear c
      by_cases c : (tk L p).k = 3
      · rw [if_pos c] at h; cases h; exact leaf (by omega) (by omega)
      rw [if_neg c] at h; clear c
      by_cases c : (tk L p).k = 4
      · rw [if_pos c] at h; cases h; exact leaf (by omega) (by omega)
      rw [if_neg c] at h; clear c
      by_cases c : (tk L p).k = 5
      · rw [if_pos c] at h; cases h; exact leaf (by omega) (by omega)
      rw [if_neg c] at h; clear c
      by_cases c : pIs L wTrue p = true
      · rw [if_pos c] at h; cases h; exact leaf (by omega) (is_k c).2
      rw [if_neg c] at h; clear c
      by_cases c : pIs L wFalse p = true
      · rw [if_pos c] at h; cases h; exact leaf (by omega) (is_k c).2
      rw [if_neg c] at h; clear c
      by_cases c : pIs L wNil p = true
      · rw [if_pos c] at h; cases h; exact leaf (by omega) (is_k c).2
      rw [if_neg c] at h; clear c
      by_cases c : (tk L p).k = 1
      · rw [if_pos c] at h
        have gp := good_pass (L := L) (p := p) (by omega)
        by_cases c2 : pIs L [40] (pPass L p) = true
        · rw [if_pos c2] at h
          simp only [Option.map_eq_some_iff] at h
          obtain ⟨⟨y, r⟩, h1, h2⟩ := h
          cases h2
          have S := i6 _ _ _ _ _ h1
          refine ⟨⟨fun hq => ?_, fun hv => plcT_nd hv (S.plc ((adv_open H _ _).v ((adv_pass H p).v hv)) plcS_nil)⟩, kd_nd (by omega) _ _ _ _⟩
          obtain ⟨_, _, g3⟩ := good_shut hq
          have hr := bad_back (adv_shut H [41] r) hq
          have e1 := S.cnt hr
          obtain ⟨_, _, _, g4⟩ := good_open (bad_back (a6 _ _ _ _ _ h1) hr)
          rw [n_nd]; rw [ns_nil] at e1
          dsimp only at *; omega
        · rw [if_neg c2] at h
          cases h; exact leaf (by omega) (by omega)
      rw [if_neg c] at h; clear c
      by_cases c : pIs L [40] p = true
      · rw [if_pos c] at h
        simp only [Option.map_eq_some_iff] at h
        obtain ⟨⟨y, r⟩, h1, h2⟩ := h
        cases h2
        obtain ⟨R, K⟩ := i1 _ _ _ _ h1
        refine ⟨⟨fun hq => ?_, fun hv => R.plc ((adv_open H _ p).v hv)⟩, K⟩
        obtain ⟨_, _, g3⟩ := good_shut hq
        have hr := bad_back (adv_shut H [41] r) hq
        have := R.cnt hr
        obtain ⟨_, _, _, g4⟩ := good_open (bad_back (a1 _ _ _ _ h1) hr)
        dsimp only at *; omega
      rw [if_neg c] at h; clear c
      by_cases c : pIs L wMake p = true
      · rw [if_pos c] at h
        have gp := good_pass (is_k c).2
        simp only [Option.bind_eq_some_iff] at h
        obtain ⟨⟨y, r⟩, h1, h2⟩ := h
        have h0 : Adv L (pPass L p) (pHead L p) 0 := by
          unfold pHead; split
          · exact adv_fail 5 _
          · exact Adv.refl _
        obtain ⟨R, _, _⟩ := red_kind H n _ h1
        have hd : (pHead L p).bad = false → (pHead L p).a = p.a + 1 := by
          unfold pHead; split
          · exact fun h => (no_fail (by decide) h).elim
          · exact fun _ => gp
        dsimp only at h2
        split at h2
        · simp only [Option.map_eq_some_iff] at h2
          obtain ⟨⟨z, u⟩, h3, h4⟩ := h2
          cases h4
          obtain ⟨S, K⟩ := i1 _ _ _ _ h3
          refine ⟨⟨fun hq => ?_, fun hv => ?_⟩, kd_nd (by omega) _ _ _ _⟩
          · obtain ⟨_, _, g3⟩ := good_shut hq
            have hu := bad_back (adv_shut H [41] u) hq
            have := S.cnt hu
            have ho := bad_back (a1 _ _ _ _ h3) hu
            obtain ⟨_, _, _, g4⟩ := good_open ho
            have hr := bad_back (adv_open H _ r) ho
            have := R.cnt hr
            have := hd (bad_back (adv_kind H n _ h1) hr)
            rw [n_nd, ns_cons, ns_cons, ns_nil]
            dsimp only at *; omega
          · have v1 := h0.v ((adv_pass H p).v hv)
            exact plcT_nd hv (plcS_cons (R.plc v1) (plcS_one (S.plc ((adv_open H _ r).v ((adv_kind H n _ h1).v v1)))))
        · cases h2
          refine ⟨⟨fun hq => ?_, fun hv => plcT_nd hv (plcS_one (R.plc (h0.v ((adv_pass H p).v hv))))⟩, kd_nd (by omega) _ _ _ _⟩
          obtain ⟨_, _, g3⟩ := good_shut hq
          have ho := bad_back (adv_shut H [41] _) hq
          obtain ⟨_, _, _, g4⟩ := good_open ho
          have hr := bad_back (adv_open H _ r) ho
          have := R.cnt hr
          have := hd (bad_back (adv_kind H n _ h1) hr)
          rw [n_nd, ns_cons, ns_nil]
          dsimp only at *; omega
      rw [if_neg c] at h
      cases h; exact ⟨red_leaf fun hq => (no_fail (by decide) hq).elim, kd_nd (by omega) _ _ _ _⟩
    · rw [pArgs] at h
      split at h
      · cases h; exact ⟨fun _ => by omega, fun _ h => h⟩
      · simp only [Option.bind_eq_some_iff] at h
        obtain ⟨⟨y, r⟩, h1, h2⟩ := h
        have h0 : Adv L p (if f = true then p else pMust L [44] p) 0 := by
          split
          · exact Adv.refl p
          · exact adv_must H _ p
        obtain ⟨R, K⟩ := i1 _ _ _ _ h1
        have S := i6 _ _ _ _ _ h2
        refine ⟨fun hq => ?_, fun hv ha => S.plc ((a1 _ _ _ _ h1).v (h0.v hv)) (plcS_app ha (plcS_one (R.plc (h0.v hv))))⟩
        have e1 := S.cnt hq
        have := R.cnt (bad_back (a6 _ _ _ _ _ h2) hq)
        have := h0.a
        rw [ns_app, ns_cons, ns_nil] at e1
        dsimp only at *; omega
end
end Go.Proofs.YthlakehilhpojaaGreatDoor
namespace Go.Proofs.YthlakehilhpojaaGreatDoor
open Go.RowKit
section
variable {L : List Tok}
theorem red_typed (H : LW L) {n : Nat} {k : Int} {p q : PS} {t : Tr} (h : pTyped L n k p = some (t, q)) : Red L p t q := by
  unfold pTyped at h
  simp only [Option.map_eq_some_iff] at h
  obtain ⟨⟨y, r⟩, h1, h2⟩ := h
  cases h2
  obtain ⟨R, _⟩ := red_kind H n _ h1
  have A1 := adv_word H 1 p
  have A2 := adv_must H [58] (pWord L 1 p)
  refine ⟨fun hq => ?_, fun hv => plcT_nd hv (plcS_one (R.plc (A2.v (A1.v hv))))⟩
  have := R.cnt hq
  have hm := bad_back (adv_kind H n _ h1) hq
  obtain ⟨_, _, g1⟩ := good_must hm
  obtain ⟨_, _, _, g2⟩ := good_word (by decide) (bad_back A2 hm)
  rw [n_nd, ns_cons, ns_nil]
  first | omega | (dsimp only at *; omega)
theorem red_plain (H : LW L) {n : Nat} {p q : PS} {t : Tr} (h : pPlain L n (tk L p) p = some (t, q)) : Red L p t q := by
  unfold pPlain at h
  simp only [Option.bind_eq_some_iff] at h
  obtain ⟨⟨y, r⟩, h1, h2⟩ := h
  dsimp only at h2
  obtain ⟨R, _⟩ := (redE H n).1 _ _ _ _ h1
  have Ad := (advE H n).1 _ _ _ _ h1
  have one : Red L p (nd 13 (tk L p) 0 [] [y]) (pMust L [59] r) := by
    refine ⟨fun hq => ?_, fun hv => plcT_nd hv (plcS_one (R.plc hv))⟩
    obtain ⟨_, _, g1⟩ := good_must hq
    have := R.cnt (bad_back (adv_must H [59] r) hq)
    rw [n_nd, ns_cons, ns_nil]
    first | omega | (dsimp only at *; omega)
  split at h2
  · rename_i c
    cases h2
    exact ⟨fun hq => (by rw [c] at hq; cases hq), fun hv => plcT_nd hv (plcS_one (R.plc hv))⟩
  split at h2
  · rename_i c
    simp only [Option.map_eq_some_iff] at h2
    obtain ⟨⟨z, v⟩, h3, h4⟩ := h2
    cases h4
    obtain ⟨S, _⟩ := (redE H n).1 _ _ _ _ h3
    have c1 : pIs L [61] r = true := by simp only [Bool.and_eq_true] at c; exact c.1
    have gp := good_pass (is_k c1).2
    refine ⟨fun hq => ?_, fun hv => plcT_nd hv (plcS_cons (R.plc hv) (plcS_one (S.plc ((adv_pass H r).v (Ad.v hv)))))⟩
    obtain ⟨_, _, g1⟩ := good_must hq
    have hv := bad_back (adv_must H [59] v) hq
    have := S.cnt hv
    have := R.cnt (bad_back (adv_pass H r) (bad_back ((advE H n).1 _ _ _ _ h3) hv))
    rw [n_nd, ns_cons, ns_cons, ns_nil]
    first | omega | (dsimp only at *; omega)
  split at h2
  · cases h2
    refine ⟨fun hq => ?_, one.plc⟩
    exact (no_fail (by decide) (bad_back (adv_must H [59] _) hq)).elim
  · cases h2; exact one
def RedSt (L : List Tok) (n : Nat) : Prop :=
  (∀ p t q, pStat L n p = some (t, q) → Red L p t q) ∧ (∀ p t q, pBlock L n p = some (t, q) → Red L p t q) ∧ (∀ acc p l q, pStats L n acc p = some (l, q) → RedS L p acc l q)
theorem redSt (H : LW L) : ∀ n, RedSt L n
  | 0 => ⟨fun _ _ _ h => (by cases h), fun _ _ _ h => (by cases h), fun _ _ _ _ h => (by cases h)⟩
  | n + 1 => by
    obtain ⟨i1, i2, i3⟩ := redSt H n
    obtain ⟨a1, a2, a3⟩ := advS H n
    have eB := (redE H n).1
    have aB := (advE H n).1
    refine ⟨fun p t q h => ?_, fun p t q h => ?_, fun acc p l q h => ?_⟩
    · rw [pStat] at h
      dsimp only at h
      have Ap := adv_pass H p
      by_cases c : pIs L wVar p = true
      · rw [if_pos c] at h
        simp only [Option.bind_eq_some_iff, Option.map_eq_some_iff] at h
        obtain ⟨⟨y, r⟩, h1, ⟨z, v⟩, h2, h3⟩ := h
        cases h3
        have gp := good_pass (is_k c).2
        obtain ⟨R, _⟩ := red_kind H n _ h1
        obtain ⟨S, _⟩ := eB _ _ _ _ h2
        have Aw := adv_word H 1 (pPass L p)
        have Am := adv_must H [58] (pWord L 1 (pPass L p))
        have Ak := adv_kind H n _ h1
        have Ae := adv_must H [61] r
        refine ⟨fun hq => ?_, fun hv => plcT_nd hv (plcS_cons (R.plc (Am.v (Aw.v (Ap.v hv)))) (plcS_one (S.plc (Ae.v (Ak.v (Am.v (Aw.v (Ap.v hv)))))))) ⟩
        obtain ⟨_, _, g1⟩ := good_must hq
        have b1 := bad_back (adv_must H [59] v) hq
        have := S.cnt b1
        have b2 := bad_back (aB _ _ _ _ h2) b1
        obtain ⟨_, _, g2⟩ := good_must b2
        have b3 := bad_back Ae b2
        have := R.cnt b3
        have b4 := bad_back Ak b3
        obtain ⟨_, _, g3⟩ := good_must b4
        obtain ⟨_, _, _, g4⟩ := good_word (by decide) (bad_back Am b4)
        rw [n_nd, ns_cons, ns_cons, ns_nil]
        first | omega | (dsimp only at *; omega)
      rw [if_neg c] at h; clear c
      by_cases c : pIs L wIf p = true
      · rw [if_pos c] at h
        simp only [Option.bind_eq_some_iff] at h
        obtain ⟨⟨y, r⟩, h1, ⟨z, v⟩, h2, h3⟩ := h
        have gp := good_pass (is_k c).2
        obtain ⟨R, _⟩ := eB _ _ _ _ h1
        have S := i2 _ _ _ h2
        have Ae := aB _ _ _ _ h1
        have Ab := (a2 _ _ _ h2).1
        dsimp only at h3
        split at h3
        · rename_i ce
          simp only [Option.map_eq_some_iff] at h3
          obtain ⟨⟨e, w⟩, h4, h5⟩ := h3
          cases h5
          have T := i2 _ _ _ h4
          have gp2 := good_pass (is_k ce).2
          refine ⟨fun hq => ?_, fun hv => plcT_nd hv (plcS_cons (R.plc (Ap.v hv)) (plcS_cons (S.plc (Ae.v (Ap.v hv))) (plcS_one (T.plc ((adv_pass H v).v (Ab.v (Ae.v (Ap.v hv))))))))⟩
          have := T.cnt hq
          have b1 := bad_back (adv_pass H v) (bad_back (a2 _ _ _ h4).1 hq)
          have := S.cnt b1
          have := R.cnt (bad_back Ab b1)
          rw [n_nd, ns_cons, ns_cons, ns_cons, ns_nil]
          first | omega | (dsimp only at *; omega)
        · cases h3
          refine ⟨fun hq => ?_, fun hv => plcT_nd hv (plcS_cons (R.plc (Ap.v hv)) (plcS_one (S.plc (Ae.v (Ap.v hv)))))⟩
          have := S.cnt hq
          have := R.cnt (bad_back Ab hq)
          rw [n_nd, ns_cons, ns_cons, ns_nil]
          first | omega | (dsimp only at *; omega)
      rw [if_neg c] at h; clear c
      by_cases c : pIs L wWhile p = true
      · rw [if_pos c] at h
        simp only [Option.bind_eq_some_iff, Option.map_eq_some_iff] at h
        obtain ⟨⟨y, r⟩, h1, ⟨z, v⟩, h2, h3⟩ := h
        cases h3
        have gp := good_pass (is_k c).2
        obtain ⟨R, _⟩ := eB _ _ _ _ h1
        have S := i2 _ _ _ h2
        have Ae := aB _ _ _ _ h1
        have Ab := (a2 _ _ _ h2).1
        refine ⟨fun hq => ?_, fun hv => plcT_nd hv (plcS_cons (R.plc (Ap.v hv)) (plcS_one (S.plc (Ae.v (Ap.v hv)))))⟩
        have := S.cnt hq
        have := R.cnt (bad_back Ab hq)
        rw [n_nd, ns_cons, ns_cons, ns_nil]
        first | omega | (dsimp only at *; omega)
      rw [if_neg c] at h; clear c
      by_cases c : pIs L wReturn p = true
      · rw [if_pos c] at h
        have gp := good_pass (is_k c).2
        split at h
        · cases h
          refine ⟨fun hq => ?_, fun hv => plcT_nd hv plcS_nil⟩
          obtain ⟨_, _, g1⟩ := good_must hq
          rw [n_nd, ns_nil]; omega
        · simp only [Option.map_eq_some_iff] at h
          obtain ⟨⟨y, r⟩, h1, h3⟩ := h
          cases h3
          obtain ⟨R, _⟩ := eB _ _ _ _ h1
          refine ⟨fun hq => ?_, fun hv => plcT_nd hv (plcS_one (R.plc (Ap.v hv)))⟩
          obtain ⟨_, _, g1⟩ := good_must hq
          have := R.cnt (bad_back (adv_must H [59] r) hq)
          rw [n_nd, ns_cons, ns_nil]
          first | omega | (dsimp only at *; omega)
      rw [if_neg c] at h; clear c
      by_cases c : pIs L wPrint p = true
      · rw [if_pos c] at h
        have gp := good_pass (is_k c).2
        simp only [Option.map_eq_some_iff] at h
        obtain ⟨⟨y, r⟩, h1, h3⟩ := h
        cases h3
        obtain ⟨R, _⟩ := eB _ _ _ _ h1
        refine ⟨fun hq => ?_, fun hv => plcT_nd hv (plcS_one (R.plc (Ap.v hv)))⟩
        obtain ⟨_, _, g1⟩ := good_must hq
        have := R.cnt (bad_back (adv_must H [59] r) hq)
        rw [n_nd, ns_cons, ns_nil]
        first | omega | (dsimp only at *; omega)
      rw [if_neg c] at h
      exact red_plain H h
    · rw [pBlock] at h
      simp only [Option.map_eq_some_iff] at h
      obtain ⟨⟨y, r⟩, h1, h3⟩ := h
      cases h3
      have R := i3 _ _ _ _ h1
      refine ⟨fun hq => ?_, fun hv => plcT_nd hv (R.plc ((adv_open H [123] p).v hv) plcS_nil)⟩
      obtain ⟨_, _, g1⟩ := good_shut hq
      have b1 := bad_back (adv_shut H [125] r) hq
      have e1 := R.cnt b1
      obtain ⟨_, _, _, g2⟩ := good_open (bad_back (a3 _ _ _ _ h1) b1)
      rw [ns_nil] at e1
      rw [n_nd]
      first | omega | (dsimp only at *; omega)
    · rw [pStats] at h
      split at h
      · cases h; exact ⟨fun _ => by omega, fun _ h => h⟩
      · simp only [Option.bind_eq_some_iff] at h
        obtain ⟨⟨y, r⟩, h1, h2⟩ := h
        have R := i1 _ _ _ h1
        have S := i3 _ _ _ _ h2
        refine ⟨fun hq => ?_, fun hv ha => S.plc ((a1 _ _ _ h1).1.v hv) (plcS_app ha (plcS_one (R.plc hv)))⟩
        have e1 := S.cnt hq
        have := R.cnt (bad_back (a3 _ _ _ _ h2) hq)
        rw [ns_app, ns_cons, ns_nil] at e1
        first | omega | (dsimp only at *; omega)
theorem red_fields (H : LW L) : ∀ (n : Nat) (acc : List Tr) (p : PS) {l : List Tr} {q : PS}, pFields L n acc p = some (l, q) → RedS L p acc l q
  | 0, _, _, _, _, h => by cases h
  | n + 1, acc, p, l, q, h => by
    rw [pFields] at h
    split at h
    · cases h; exact ⟨fun _ => by omega, fun _ h => h⟩
    · simp only [Option.bind_eq_some_iff] at h
      obtain ⟨⟨y, r⟩, h1, h2⟩ := h
      have R := red_typed H h1
      have S := red_fields H n _ _ h2
      have At' := (adv_typed H h1).1
      have Am := adv_must H [59] r
      refine ⟨fun hq => ?_, fun hv ha => S.plc (Am.v (At'.v hv)) (plcS_app ha (plcS_one (R.plc hv)))⟩
      have e1 := S.cnt hq
      have := R.cnt (bad_back Am (bad_back (adv_fields H n _ _ h2) hq))
      have := Am.a
      rw [ns_app, ns_cons, ns_nil] at e1
      first | omega | (dsimp only at *; omega)
theorem red_params (H : LW L) : ∀ (n : Nat) (f : Bool) (acc : List Tr) (p : PS) {l : List Tr} {q : PS}, pParams L n f acc p = some (l, q) → RedS L p acc l q
  | 0, _, _, _, _, _, h => by cases h
  | n + 1, f, acc, p, l, q, h => by
    rw [pParams] at h
    split at h
    · cases h; exact ⟨fun _ => by omega, fun _ h => h⟩
    · simp only [Option.bind_eq_some_iff] at h
      obtain ⟨⟨y, r⟩, h1, h2⟩ := h
      have h0 : Adv L p (if f = true then p else pMust L [44] p) 0 := by
        split
        · exact Adv.refl p
        · exact adv_must H _ p
      have R := red_typed H h1
      have S := red_params H n _ _ _ h2
      have At' := (adv_typed H h1).1
      refine ⟨fun hq => ?_, fun hv ha => S.plc (At'.v (h0.v hv)) (plcS_app ha (plcS_one (R.plc (h0.v hv))))⟩
      have e1 := S.cnt hq
      have := R.cnt (bad_back (adv_params H n _ _ _ h2) hq)
      have := h0.a
      rw [ns_app, ns_cons, ns_nil] at e1
      first | omega | (dsimp only at *; omega)
theorem red_record (H : LW L) {n : Nat} {p q : PS} {t : Tr} (h : pRecord L n p = some (t, q)) : Red L p t q := by
  unfold pRecord at h
  simp only [Option.map_eq_some_iff] at h
  obtain ⟨⟨y, r⟩, h1, h2⟩ := h
  cases h2
  have R := red_fields H n _ _ h1
  have Am := adv_must H wRec p
  have Aw := adv_word H 2 (pMust L wRec p)
  have Ao := adv_open H [123] (pWord L 2 (pMust L wRec p))
  refine ⟨fun hq => ?_, fun hv => plcT_nd hv (R.plc (Ao.v (Aw.v (Am.v hv))) plcS_nil)⟩
  obtain ⟨_, _, g1⟩ := good_shut hq
  have b1 := bad_back (adv_shut H [125] r) hq
  have e1 := R.cnt b1
  obtain ⟨_, _, _, g2⟩ := good_open (bad_back (adv_fields H n _ _ h1) b1)
  have := Am.a
  have := Aw.a
  rw [ns_nil] at e1
  rw [n_nd]
  first | omega | (dsimp only at *; omega)
theorem red_fn (H : LW L) {n : Nat} {p q : PS} {t : Tr} (h : pFn L n p = some (t, q)) : Red L p t q := by
  unfold pFn at h
  simp only [Option.map_eq_some_iff, Option.bind_eq_some_iff] at h
  obtain ⟨⟨y, r⟩, h1, ⟨z, v⟩, h2, ⟨e, w⟩, h3, h4⟩ := h
  cases h4
  dsimp only at h2 h3 ⊢
  have R := red_params H n _ _ _ h1
  have T := (redSt H n).2.1 _ _ _ h3
  have Am := adv_must H wFn p
  have Aw := adv_word H 1 (pMust L wFn p)
  have Ao := adv_open H [40] (pWord L 1 (pMust L wFn p))
  have Ap := adv_params H n _ _ _ h1
  have As := adv_shut H [41] r
  have B : Adv L (pShut L [41] r) v 0 := by
    split at h2
    · exact ((adv_pass H _).trans (adv_kind H n _ h2)).of (by omega)
    · cases h2; exact Adv.refl _
  have S : (v.bad = false → z.n + (pShut L [41] r).a ≤ v.a + 1) ∧ ((pShut L [41] r).a < L.length → PlcT L z) := by
    split at h2
    · rename_i c
      obtain ⟨K, _⟩ := red_kind H n _ h2
      refine ⟨fun hq => ?_, fun hv => K.plc ((adv_pass H _).v hv)⟩
      have := K.cnt hq
      have := (adv_pass H (pShut L [41] r)).a
      omega
    · cases h2
      refine ⟨fun _ => by simp [Tr.n, Tr.nods, Tr.nodss]; omega, fun _ x hx => ?_⟩
      simp only [Tr.nods, Tr.nodss, List.mem_singleton] at hx
      subst hx
      exact .inr ⟨rfl, rfl, rfl⟩
  refine ⟨fun hq => ?_, fun hv => plcT_nd hv (plcS_app (R.plc (Ao.v (Aw.v (Am.v hv))) plcS_nil) (plcS_cons (S.2 (As.v (Ap.v (Ao.v (Aw.v (Am.v hv)))))) (plcS_one (T.plc (B.v (As.v (Ap.v (Ao.v (Aw.v (Am.v hv)))))))))) ⟩
  have := T.cnt hq
  have b1 := bad_back (((advS H n).2.1 _ _ _ h3).1) hq
  have := S.1 b1
  have b2 := bad_back B b1
  obtain ⟨_, _, g1⟩ := good_shut b2
  have b3 := bad_back As b2
  have e1 := R.cnt b3
  obtain ⟨_, _, _, g2⟩ := good_open (bad_back Ap b3)
  have := Am.a
  have := Aw.a
  rw [ns_nil] at e1
  rw [n_nd, ns_app, ns_cons, ns_cons, ns_nil]
  first | omega | (dsimp only at *; omega)
theorem red_progL (H : LW L) : ∀ (n : Nat) (acc : List Tr) (p : PS) {l : List Tr} {q : PS}, pProgL L n acc p = some (l, q) → RedS L p acc l q
  | 0, _, _, _, _, h => by cases h
  | n + 1, acc, p, l, q, h => by
    rw [pProgL] at h
    split at h
    · cases h; exact ⟨fun _ => by omega, fun _ h => h⟩
    have more : ∀ {y : Tr} {r : PS}, Red L p y r → Adv L p r 0 → pProgL L n (acc ++ [y]) r = some (l, q) → RedS L p acc l q := by
      intro y r R A h2
      have S := red_progL H n _ _ h2
      refine ⟨fun hq => ?_, fun hv ha => S.plc (A.v hv) (plcS_app ha (plcS_one (R.plc hv)))⟩
      have e1 := S.cnt hq
      have := R.cnt (bad_back (adv_progL H n _ _ h2) hq)
      rw [ns_app, ns_cons, ns_nil] at e1
      omega
    split at h
    · simp only [Option.bind_eq_some_iff] at h
      obtain ⟨⟨y, r⟩, h1, h2⟩ := h
      exact more (red_record H h1) (adv_record H h1).1 h2
    split at h
    · simp only [Option.bind_eq_some_iff] at h
      obtain ⟨⟨y, r⟩, h1, h2⟩ := h
      exact more (red_fn H h1) (adv_fn H h1).1 h2
    · have S := red_progL H n _ _ h
      have A := adv_fail (L := L) 5 p
      refine ⟨fun hq => (no_fail (by decide) (bad_back (adv_progL H n _ _ h) hq)).elim, fun hv ha => S.plc (A.v hv) ha⟩
end
theorem pls_len {s : List UInt8} : ∀ {l : List Tok} {i : Nat}, Pls s i l → l.length + i ≤ s.length + 1
  | [], _, h => by cases h
  | t :: l, i, ⟨h1, _, h3⟩ => by
    rcases h3 with ⟨_, _, rfl⟩ | ⟨h4, h5, _, _, _, _, _, h11⟩
    · simp; omega
    · have := pls_len h11
      have := (one_ok h4 h5).1
      simp; omega
/-- The tree of a text, or its fault. -/
def fuelOf (L : List Tok) : Nat := 12 * L.length + 20
def p0 : PS := ⟨0, 0, (0, 0, 0)⟩
def endP (L : List Tok) (p : PS) : PS := if (tk L p).k = 8 then p else pFail L 5 p
def parseT (prog : Bool) (s : List UInt8) : Option ((Int × Int × Int) × Tr) :=
  if (lexAll s).1.1 ≠ 0 then some ((lexAll s).1, .nd 0 0 0 0 [] [])
  else (if prog then pProg (lexAll s).2 (fuelOf (lexAll s).2) p0 else pBin (lexAll s).2 (fuelOf (lexAll s).2) 1 p0).map fun r => ((endP (lexAll s).2 r.2).f, r.1)
/-- A text's tokens. -/
structure Toks (s : List UInt8) (L : List Tok) : Prop where
  lw : LW L
  len : L.length ≤ s.length + 1
  tok : ∀ t ∈ L, t.k = 8 ∨ TokIn s t
theorem toks_of {s : List UInt8} (h : (lexAll s).1.1 = 0) : Toks s (lexAll s).2 := by
  have P := lexAll_pls h
  exact ⟨(pls_lw P).1, by have := pls_len P; omega, (pls_lw P).2⟩
theorem mu_p0 (L : List Tok) : mu L p0 = L.length := rfl
theorem parse_some (prog : Bool) (s : List UInt8) : ∃ r, parseT prog s = some r := by
  unfold parseT
  split
  · exact ⟨_, rfl⟩
  · rename_i h
    have h0 : (lexAll s).1.1 = 0 := by simpa using h
    have T := toks_of h0
    have hv : p0.a < (lexAll s).2.length := T.lw.pos
    rw [← Option.isSome_iff_exists, Option.isSome_map]
    cases prog with
    | true =>
      show (pProg _ _ _).isSome = true
      unfold pProg
      rw [Option.isSome_map]
      exact fuel_progL T.lw _ _ _ hv (by rw [mu_p0]; unfold fuelOf; omega)
    | false => exact (fuelE T.lw _).1 1 p0 hv (by rw [mu_p0]; unfold fuelOf; omega)
/-- What is read: no more nodes than tokens, and where they are. -/
theorem parse_red {prog : Bool} {s : List UInt8} {f : Int × Int × Int} {t : Tr} (h : parseT prog s = some (f, t)) (hf : f.1 = 0) :
    (lexAll s).1.1 = 0 ∧ t.n ≤ s.length + 1 ∧ (prog = false → Kd t ∧ PlcT (lexAll s).2 t) ∧ (prog = true → ∃ rl, t = .nd 1 1 1 0 [] rl ∧ PlcS (lexAll s).2 rl) := by
  unfold parseT at h
  split at h
  · rename_i h0
    cases h
    exact absurd hf h0
  rename_i h0
  have h0 : (lexAll s).1.1 = 0 := by simpa using h0
  have T := toks_of h0
  have hv : p0.a < (lexAll s).2.length := T.lw.pos
  have hlen := T.len
  simp only [Option.map_eq_some_iff] at h
  obtain ⟨⟨t', q⟩, h1, h2⟩ := h
  cases h2
  have hq : q.bad = false := by
    unfold endP at hf
    split at hf
    · unfold PS.bad; rw [hf]; rfl
    · exfalso
      have := bad_fail (L := (lexAll s).2) (e := 5) (by decide) q
      unfold PS.bad at this
      rw [hf] at this
      exact absurd this (by decide)
  refine ⟨h0, ?_⟩
  cases prog with
  | false =>
    have h1 : pBin (lexAll s).2 (fuelOf (lexAll s).2) 1 p0 = some (t', q) := h1
    obtain ⟨R, K⟩ := (redE T.lw _).1 _ _ _ _ h1
    have := R.cnt hq
    have := ((advE T.lw _).1 _ _ _ _ h1).v hv
    exact ⟨by dsimp only at *; omega, fun _ => ⟨K, R.plc hv⟩, fun h => by cases h⟩
  | true =>
    have h1 : pProg (lexAll s).2 (fuelOf (lexAll s).2) p0 = some (t', q) := h1
    unfold pProg at h1
    simp only [Option.map_eq_some_iff] at h1
    obtain ⟨⟨rl, r⟩, h3, h4⟩ := h1
    cases h4
    have R := red_progL T.lw _ _ _ h3
    have e := R.cnt hq
    rw [ns_nil] at e
    have := (adv_progL T.lw _ _ _ h3).v hv
    refine ⟨?_, fun h => (by cases h), fun _ => ⟨rl, rfl, R.plc hv plcS_nil⟩⟩
    have : (Tr.nd 1 1 1 0 [] rl).n = Tr.ns rl + 1 := by simp [Tr.n, Tr.ns, Tr.nods]
    rw [this]
    first | omega | (dsimp only at *; omega)
end Go.Proofs.YthlakehilhpojaaGreatDoor
namespace Go.Proofs.YthlakehilhpojaaGreatDoor
open Go.RowKit
attribute [local go_sem] says_tt says_ff th_need th_ite th_call th_callK th_load th_store th_mk th_new th_mks th_str says_ret says_again says_app BE.den IE.den SE.den LE.den AE.den CE.den PE.den VE.den KV.val Got.den Got.cnt exI allI exL allL Ctx.push Ctx.heap Ctx.cut Ctx.bare Ctx.mark Inc.blank List.getD_cons_zero List.getD_cons_succ List.cons_append List.nil_append List.append_nil List.map_cons List.map_nil List.replicate_zero List.replicate_succ specOf ltB_t leB_t ltB_f leB_f slc_val slc_nil slc_inj pt_val pt_nil hle_noHeap hle_refl hread_set hwrite_set set_same set_set noHeap_at B_inj ones_nil and_assoc
def fm_pnow : Fm := (.load (.c true) (.pt 0 0) 1 [(.sl (.x 0))] ⟨0, 0, 0, 0, 1, 0⟩
  (.load (.c true) (.pt 0 1) 1 [(.i .i64 (.x 0))] ⟨1, 0, 0, 0, 0, 0⟩
  (.need (.c true) (.nnp 0)
  (.need (.c true) (.nnp 0)
  (.need (.c true) (.nnp 0)
  (.need (.c true) (.nnp 0)
  (.need (.c true) (.and (.and (.le (.c 0) (.x 0)) (.lt (.x 0) (.cnt (.x 0)))) (.nns (.x 0)))
  (.load (.c true) (.el (.x 0) (.x 0) 5 0) 5 [(.i .u8 (.x 1)), (.i .i64 (.x 2)), (.i .i64 (.x 3)), (.i .i64 (.x 4)), (.s (.x 0))] ⟨4, 0, 1, 0, 0, 0⟩
  (.ret (.p (.agg [(.i .u8 (.x 1)), (.i .i64 (.x 2)), (.i .i64 (.x 3)), (.i .i64 (.x 4)), (.s (.x 0))])))))))))))
theorem gen_pnow : genFn ⟨true, []⟩ Tryz.prog (fun l => ([] : List LAnn).getD l ⟨[], [], []⟩) Tryz.f18 = fm_pnow := by kernel_rfl
theorem ps_pnow : freshPs Tryz.prog .zero Tryz.f18.params.toList = some ([(.one (.pt 0))], ⟨0, 0, 0, 0, 0, 1⟩) := by kernel_rfl
def fm_pbad : Fm := (.need (.c true) (.nnp 0)
  (.need (.c true) (.nnp 0)
  (.need (.c true) (.nnp 0)
  (.load (.c true) (.pt 0 3) 1 [(.i .i64 (.x 0))] ⟨1, 0, 0, 0, 0, 0⟩
  (.ret (.p (.one (.b (.not (.eqI (.x 0) (.c 0)))))))))))
theorem gen_pbad : genFn ⟨true, []⟩ Tryz.prog (fun l => ([] : List LAnn).getD l ⟨[], [], []⟩) Tryz.f20 = fm_pbad := by kernel_rfl
theorem ps_pbad : freshPs Tryz.prog .zero Tryz.f20.params.toList = some ([(.one (.pt 0))], ⟨0, 0, 0, 0, 0, 1⟩) := by kernel_rfl
def fm_pfail : Fm := (.call (.c true) false 20 [(.one (.pt 0))] (.p (.one (.b (.x 0)))) ⟨0, 1, 0, 0, 0, 0⟩
  (.ite (.not (.x 0))
  (.call (.c true) false 18 [(.one (.pt 0))] (.p (.agg [(.i .u8 (.x 1)), (.i .i64 (.x 2)), (.i .i64 (.x 3)), (.i .i64 (.x 4)), (.s (.x 0))])) ⟨4, 0, 1, 0, 0, 0⟩
  (.need (.c true) (.nnp 0)
  (.need (.c true) (.nnp 0)
  (.store (.pt 0 3) [(.i .i64 (.x 0)), (.i .i64 (.x 2)), (.i .i64 (.x 3))]
  (.ret (.tup []))))))
  (.ret (.tup []))))
theorem gen_pfail : genFn ⟨true, []⟩ Tryz.prog (fun l => ([] : List LAnn).getD l ⟨[], [], []⟩) Tryz.f19 = fm_pfail := by kernel_rfl
theorem ps_pfail : freshPs Tryz.prog .zero Tryz.f19.params.toList = some ([(.one (.pt 0)), (.one (.i .i64 (.x 0)))], ⟨1, 0, 0, 0, 0, 1⟩) := by kernel_rfl
def fm_pis : Fm := (.call (.c true) false 18 [(.one (.pt 0))] (.p (.agg [(.i .u8 (.x 0)), (.i .i64 (.x 1)), (.i .i64 (.x 2)), (.i .i64 (.x 3)), (.s (.x 1))])) ⟨4, 0, 1, 0, 0, 0⟩
  (.call (.c true) false 20 [(.one (.pt 0))] (.p (.one (.b (.x 0)))) ⟨0, 1, 0, 0, 0, 0⟩
  (.ret (.p (.one (.b (.and (.and (.not (.x 0)) (.or (.eqI (.x 0) (.c 6)) (.eqI (.x 0) (.c 7)))) (.eqS (.x 1) (.x 0)))))))))
theorem gen_pis : genFn ⟨true, []⟩ Tryz.prog (fun l => ([] : List LAnn).getD l ⟨[], [], []⟩) Tryz.f35 = fm_pis := by kernel_rfl
theorem ps_pis : freshPs Tryz.prog .zero Tryz.f35.params.toList = some ([(.one (.pt 0)), (.one (.s (.x 0)))], ⟨0, 0, 1, 0, 0, 1⟩) := by kernel_rfl
def fm_ppass : Fm := (.call (.c true) false 18 [(.one (.pt 0))] (.p (.agg [(.i .u8 (.x 0)), (.i .i64 (.x 1)), (.i .i64 (.x 2)), (.i .i64 (.x 3)), (.s (.x 0))])) ⟨4, 0, 1, 0, 0, 0⟩
  (.ite (.not (.eqI (.x 0) (.c 8)))
  (.need (.c true) (.nnp 0)
  (.need (.c true) (.nnp 0)
  (.load (.c true) (.pt 0 1) 1 [(.i .i64 (.x 4))] ⟨1, 0, 0, 0, 0, 0⟩
  (.need (.c true) (.and (.le (.c (-9223372036854775808)) (.add (.x 4) (.c 1))) (.le (.add (.x 4) (.c 1)) (.c 9223372036854775807)))
  (.need (.c true) (.nnp 0)
  (.need (.c true) (.nnp 0)
  (.store (.pt 0 1) [(.i .i64 (.add (.x 4) (.c 1)))]
  (.ret (.p (.agg [(.i .u8 (.x 0)), (.i .i64 (.x 1)), (.i .i64 (.x 2)), (.i .i64 (.x 3)), (.s (.x 0))]))))))))))
  (.ret (.p (.agg [(.i .u8 (.x 0)), (.i .i64 (.x 1)), (.i .i64 (.x 2)), (.i .i64 (.x 3)), (.s (.x 0))])))))
theorem gen_ppass : genFn ⟨true, []⟩ Tryz.prog (fun l => ([] : List LAnn).getD l ⟨[], [], []⟩) Tryz.f48 = fm_ppass := by kernel_rfl
theorem ps_ppass : freshPs Tryz.prog .zero Tryz.f48.params.toList = some ([(.one (.pt 0))], ⟨0, 0, 0, 0, 0, 1⟩) := by kernel_rfl
def fm_ptry : Fm := (.call (.c true) false 35 [(.one (.pt 0)), (.one (.s (.x 0)))] (.p (.one (.b (.x 0)))) ⟨0, 1, 0, 0, 0, 0⟩
  (.ite (.not (.x 0))
  (.ret (.p (.one (.b (.c false)))))
  (.call (.c true) false 48 [(.one (.pt 0))] (.p (.agg [(.i .u8 (.x 0)), (.i .i64 (.x 1)), (.i .i64 (.x 2)), (.i .i64 (.x 3)), (.s (.x 1))])) ⟨4, 0, 1, 0, 0, 0⟩
  (.ret (.p (.one (.b (.c true))))))))
theorem gen_ptry : genFn ⟨true, []⟩ Tryz.prog (fun l => ([] : List LAnn).getD l ⟨[], [], []⟩) Tryz.f63 = fm_ptry := by kernel_rfl
theorem ps_ptry : freshPs Tryz.prog .zero Tryz.f63.params.toList = some ([(.one (.pt 0)), (.one (.s (.x 0)))], ⟨0, 0, 1, 0, 0, 1⟩) := by kernel_rfl
def fm_pmust : Fm := (.call (.c true) false 18 [(.one (.pt 0))] (.p (.agg [(.i .u8 (.x 0)), (.i .i64 (.x 1)), (.i .i64 (.x 2)), (.i .i64 (.x 3)), (.s (.x 1))])) ⟨4, 0, 1, 0, 0, 0⟩
  (.call (.c true) false 63 [(.one (.pt 0)), (.one (.s (.x 0)))] (.p (.one (.b (.x 0)))) ⟨0, 1, 0, 0, 0, 0⟩
  (.ite (.not (.x 0))
  (.call (.c true) false 19 [(.one (.pt 0)), (.one (.i .i64 (.c 5)))] (.tup []) ⟨0, 0, 0, 0, 0, 0⟩
  (.ret (.p (.agg [(.i .u8 (.x 0)), (.i .i64 (.x 1)), (.i .i64 (.x 2)), (.i .i64 (.x 3)), (.s (.x 1))]))))
  (.ret (.p (.agg [(.i .u8 (.x 0)), (.i .i64 (.x 1)), (.i .i64 (.x 2)), (.i .i64 (.x 3)), (.s (.x 1))]))))))
theorem gen_pmust : genFn ⟨true, []⟩ Tryz.prog (fun l => ([] : List LAnn).getD l ⟨[], [], []⟩) Tryz.f57 = fm_pmust := by kernel_rfl
theorem ps_pmust : freshPs Tryz.prog .zero Tryz.f57.params.toList = some ([(.one (.pt 0)), (.one (.s (.x 0)))], ⟨0, 0, 1, 0, 0, 1⟩) := by kernel_rfl
def fm_popen : Fm := (.call (.c true) false 35 [(.one (.pt 0)), (.one (.s (.x 0)))] (.p (.one (.b (.x 0)))) ⟨0, 1, 0, 0, 0, 0⟩
  (.need (.x 0) (.nnp 0)
  (.need (.x 0) (.nnp 0)
  (.load (.x 0) (.pt 0 2) 1 [(.i .i64 (.x 0))] ⟨1, 0, 0, 0, 0, 0⟩
  (.ite (.and (.x 0) (.eqI (.x 0) (.c 40)))
  (.call (.c true) false 19 [(.one (.pt 0)), (.one (.i .i64 (.c 6)))] (.tup []) ⟨0, 0, 0, 0, 0, 0⟩
  (.call (.c true) false 57 [(.one (.pt 0)), (.one (.s (.x 0)))] (.p (.agg [(.i .u8 (.x 1)), (.i .i64 (.x 2)), (.i .i64 (.x 3)), (.i .i64 (.x 4)), (.s (.x 1))])) ⟨4, 0, 1, 0, 0, 0⟩
  (.need (.c true) (.nnp 0)
  (.need (.c true) (.nnp 0)
  (.load (.c true) (.pt 0 2) 1 [(.i .i64 (.x 5))] ⟨1, 0, 0, 0, 0, 0⟩
  (.need (.c true) (.and (.le (.c (-9223372036854775808)) (.add (.x 5) (.c 1))) (.le (.add (.x 5) (.c 1)) (.c 9223372036854775807)))
  (.need (.c true) (.nnp 0)
  (.need (.c true) (.nnp 0)
  (.store (.pt 0 2) [(.i .i64 (.add (.x 5) (.c 1)))]
  (.ret (.p (.agg [(.i .u8 (.x 1)), (.i .i64 (.x 2)), (.i .i64 (.x 3)), (.i .i64 (.x 4)), (.s (.x 1))]))))))))))))
  (.call (.c true) false 57 [(.one (.pt 0)), (.one (.s (.x 0)))] (.p (.agg [(.i .u8 (.x 1)), (.i .i64 (.x 2)), (.i .i64 (.x 3)), (.i .i64 (.x 4)), (.s (.x 1))])) ⟨4, 0, 1, 0, 0, 0⟩
  (.need (.c true) (.nnp 0)
  (.need (.c true) (.nnp 0)
  (.load (.c true) (.pt 0 2) 1 [(.i .i64 (.x 5))] ⟨1, 0, 0, 0, 0, 0⟩
  (.need (.c true) (.and (.le (.c (-9223372036854775808)) (.add (.x 5) (.c 1))) (.le (.add (.x 5) (.c 1)) (.c 9223372036854775807)))
  (.need (.c true) (.nnp 0)
  (.need (.c true) (.nnp 0)
  (.store (.pt 0 2) [(.i .i64 (.add (.x 5) (.c 1)))]
  (.ret (.p (.agg [(.i .u8 (.x 1)), (.i .i64 (.x 2)), (.i .i64 (.x 3)), (.i .i64 (.x 4)), (.s (.x 1))]))))))))))))))))
theorem gen_popen : genFn ⟨true, []⟩ Tryz.prog (fun l => ([] : List LAnn).getD l ⟨[], [], []⟩) Tryz.f60 = fm_popen := by kernel_rfl
theorem ps_popen : freshPs Tryz.prog .zero Tryz.f60.params.toList = some ([(.one (.pt 0)), (.one (.s (.x 0)))], ⟨0, 0, 1, 0, 0, 1⟩) := by kernel_rfl
def fm_pshut : Fm := (.call (.c true) false 57 [(.one (.pt 0)), (.one (.s (.x 0)))] (.p (.agg [(.i .u8 (.x 0)), (.i .i64 (.x 1)), (.i .i64 (.x 2)), (.i .i64 (.x 3)), (.s (.x 1))])) ⟨4, 0, 1, 0, 0, 0⟩
  (.need (.c true) (.nnp 0)
  (.need (.c true) (.nnp 0)
  (.load (.c true) (.pt 0 2) 1 [(.i .i64 (.x 4))] ⟨1, 0, 0, 0, 0, 0⟩
  (.need (.c true) (.and (.le (.c (-9223372036854775808)) (.sub (.x 4) (.c 1))) (.le (.sub (.x 4) (.c 1)) (.c 9223372036854775807)))
  (.need (.c true) (.nnp 0)
  (.need (.c true) (.nnp 0)
  (.store (.pt 0 2) [(.i .i64 (.sub (.x 4) (.c 1)))]
  (.ret (.tup []))))))))))
theorem gen_pshut : genFn ⟨true, []⟩ Tryz.prog (fun l => ([] : List LAnn).getD l ⟨[], [], []⟩) Tryz.f62 = fm_pshut := by kernel_rfl
theorem ps_pshut : freshPs Tryz.prog .zero Tryz.f62.params.toList = some ([(.one (.pt 0)), (.one (.s (.x 0)))], ⟨0, 0, 1, 0, 0, 1⟩) := by kernel_rfl
def fm_pword : Fm := (.call (.c true) false 18 [(.one (.pt 0))] (.p (.agg [(.i .u8 (.x 1)), (.i .i64 (.x 2)), (.i .i64 (.x 3)), (.i .i64 (.x 4)), (.s (.x 0))])) ⟨4, 0, 1, 0, 0, 0⟩
  (.call (.c true) false 20 [(.one (.pt 0))] (.p (.one (.b (.x 0)))) ⟨0, 1, 0, 0, 0, 0⟩
  (.ite (.or (.x 0) (.not (.eqI (.x 1) (.x 0))))
  (.call (.c true) false 19 [(.one (.pt 0)), (.one (.i .i64 (.c 5)))] (.tup []) ⟨0, 0, 0, 0, 0, 0⟩
  (.ret (.p (.agg [(.i .u8 (.x 1)), (.i .i64 (.x 2)), (.i .i64 (.x 3)), (.i .i64 (.x 4)), (.s (.x 0))]))))
  (.call (.c true) false 48 [(.one (.pt 0))] (.p (.agg [(.i .u8 (.x 5)), (.i .i64 (.x 6)), (.i .i64 (.x 7)), (.i .i64 (.x 8)), (.s (.x 1))])) ⟨4, 0, 1, 0, 0, 0⟩
  (.ret (.p (.agg [(.i .u8 (.x 5)), (.i .i64 (.x 6)), (.i .i64 (.x 7)), (.i .i64 (.x 8)), (.s (.x 1))])))))))
theorem gen_pword : genFn ⟨true, []⟩ Tryz.prog (fun l => ([] : List LAnn).getD l ⟨[], [], []⟩) Tryz.f59 = fm_pword := by kernel_rfl
theorem ps_pword : freshPs Tryz.prog .zero Tryz.f59.params.toList = some ([(.one (.pt 0)), (.one (.i .u8 (.x 0)))], ⟨1, 0, 0, 0, 0, 1⟩) := by kernel_rfl
def PT : TypeId := 48
def pcs (sl : Slc) (p : PS) : List Value := [sl.val, .int .i64 p.a, .int .i64 p.d, .int .i64 p.f.1, .int .i64 p.f.2.1, .int .i64 p.f.2.2]
/-- A row of tokens in memory, not empty. -/
def Tks (h : Hp) (sl : Slc) (L : List Tok) : Prop := ∃ tb c r, sl = ⟨some (tb, 0), L.length, c⟩ ∧ h tb = some ⟨tcs L ++ r, TK⟩
/-- A parser in memory. -/
structure PW (h : Hp) (b : Nat) (sl : Slc) (L : List Tok) (p : PS) : Prop where
  blk : h b = some ⟨pcs sl p, PT⟩
  tok : Tks h sl L
  lw : LW L
  len : L.length ≤ 1000000
  at' : p.a < L.length
  d0 : -1000000000000 ≤ p.d
  d1 : p.d ≤ 1000000000000
def tokv (t : Tok) : Value := tkv t.k t.l t.c t.n t.x
theorem tk_ne_pt : TK ≠ PT := by decide
theorem Tks.keep {h k : Hp} {sl : Slc} {L : List Tok} (ht : Tks h sl L) (hk : ∀ c o, o.ty = TK → h c = some o → k c = some o) : Tks k sl L := by
  obtain ⟨tb, c, r, h1, h2⟩ := ht
  exact ⟨tb, c, r, h1, hk _ _ rfl h2⟩
theorem PW.set {h : Hp} {b : Nat} {sl : Slc} {L : List Tok} {p q : PS} (W : PW h b sl L p) (ha : q.a < L.length) (h0 : -1000000000000 ≤ q.d) (h1 : q.d ≤ 1000000000000) : PW (h.set b ⟨pcs sl q, PT⟩) b sl L q :=
  ⟨set_same _ _ _, W.tok.keep fun c o ho hc => by
    rw [set_ne]
    · exact hc
    · rintro rfl; rw [W.blk] at hc; cases hc; exact absurd ho.symm tk_ne_pt, W.lw, W.len, ha, h0, h1⟩
theorem PW.adv {h : Hp} {b : Nat} {sl : Slc} {L : List Tok} {p q : PS} {e : Int} (W : PW h b sl L p) (A : Adv L p q e) (h0 : -1000000000000 ≤ p.d + e) (h1 : p.d + e ≤ 1000000000000) : PW (h.set b ⟨pcs sl q, PT⟩) b sl L q :=
  W.set (A.v W.at') (by rw [A.d]; exact h0) (by rw [A.d]; exact h1)
theorem PW.adv0 {h : Hp} {b : Nat} {sl : Slc} {L : List Tok} {p q : PS} (W : PW h b sl L p) (A : Adv L p q 0) : PW (h.set b ⟨pcs sl q, PT⟩) b sl L q :=
  W.adv A (by have := W.d0; omega) (by have := W.d1; omega)
theorem PW.self {h : Hp} {b : Nat} {sl : Slc} {L : List Tok} {p : PS} (W : PW h b sl L p) : h.set b ⟨pcs sl p, PT⟩ = h := (set_self W.blk).symm
theorem tk_at {L : List Tok} {p : PS} (h : p.a < L.length) : tk L p = L[p.a] := by
  unfold tk; rw [List.getD_eq_getElem?_getD, List.getElem?_eq_getElem h]; rfl
theorem tok_read {h : Hp} {tb : Nat} {L : List Tok} {r : List Value} {T : TypeId} (hb : h tb = some ⟨tcs L ++ r, T⟩) {p : PS} (hp : p.a < L.length) :
    hread h (some (tb, p.a * 5)) 5 = some [.int .u8 (tk L p).k, .int .i64 (tk L p).l, .int .i64 (tk L p).c, .int .i64 (tk L p).n, .string (B (tk L p).x)] := by
  have hlen := tcs_len L
  rw [hread_of hb, if_pos (by simp only [List.length_append]; omega)]
  simp only
  have e : ∀ (l : List Tok) (j : Nat), (tcs l).drop (j * 5) = tcs (l.drop j) := by
    intro l
    induction l with
    | nil => intro j; simp [tcs]
    | cons a l ih =>
      intro j
      cases j with
      | zero => simp
      | succ j =>
        have : tcs (a :: l) = a.cs ++ tcs l := by simp [tcs]
        rw [this, show (j + 1) * 5 = a.cs.length + j * 5 by simp [Tok.cs]; omega, List.drop_append, List.drop_succ_cons, ← ih]
        simp
  rw [List.drop_append_of_le_length (by omega), e, List.drop_eq_getElem_cons hp, tcs, List.flatMap_cons, tk_at hp]
  rfl
theorem hwrite_of {h : Hp} {b : Nat} {o : HO} (hb : h b = some o) (off : Nat) (cs : List Value) : hwrite h (some (b, off)) cs = if off + cs.length ≤ o.cs.length then some (h.set b ⟨o.cs.take off ++ cs ++ o.cs.drop (off + cs.length), o.ty⟩) else none := by
  unfold hwrite; simp only [hb]
def ctNow : Ct Tryz.prog where
  f := 18
  spec := fun args h φ => ∃ b sl L p, args = [.pointer (some ⟨b, 0, none⟩)] ∧ PW h b sl L p ∧ φ (tokv (tk L p)) h
  ok := by
    rintro args h φ w ⟨b, sl, L, p, rfl, W, hφ⟩ hH
    refine by_fm Tryz.func18 gen_pnow ps_pnow [] φ noInv noMeas ⟨[], [], [], [], [], [some (b, 0)], h, noM⟩ ⟨rfl, rfl, rfl, rfl, rfl, rfl⟩ ones_nil ?_ w hH rfl
    generalize hE : (⟨specOf _, _, _, _⟩ : Env) = E
    have ep : E.post = φ := by rw [← hE]
    clear hE
    obtain ⟨tb, c, r, rfl, ht⟩ := W.tok
    have hb := W.blk
    have ha := W.at'
    have hr := tok_read ht ha
    have haz : (p.a : Int) < L.length := by omega
    rw [← then_step]; unfold fm_pnow
    iterate 9 (try simp only [then_step]; try simp [go_sem, hread_of hb, pcs, haz, ep, hr])
    exact hφ
/-- The head of a walk of one of the parser's functions. -/
def ctBad : Ct Tryz.prog where
  f := 20
  spec := fun args h φ => ∃ b sl L p, args = [.pointer (some ⟨b, 0, none⟩)] ∧ PW h b sl L p ∧ φ (.bool p.bad) h
  ok := by
    rintro args h φ w ⟨b, sl, L, p, rfl, W, hφ⟩ hH
    refine by_fm Tryz.func20 gen_pbad ps_pbad [] φ noInv noMeas ⟨[], [], [], [], [], [some (b, 0)], h, noM⟩ ⟨rfl, rfl, rfl, rfl, rfl, rfl⟩ ones_nil ?_ w hH rfl
    generalize hE : (⟨specOf _, _, _, _⟩ : Env) = E
    have ep : E.post = φ := by rw [← hE]
    clear hE
    have hb := W.blk
    rw [← then_step]; unfold fm_pbad
    iterate 9 (try simp only [then_step]; try simp [go_sem, hread_of hb, pcs, ep])
    exact hφ
def ctFail : Ct Tryz.prog where
  f := 19
  spec := fun args h φ => ∃ b sl L p e, args = [.pointer (some ⟨b, 0, none⟩), .int .i64 e] ∧ PW h b sl L p ∧ φ (.tuple #[]) (h.set b ⟨pcs sl (pFail L e p), PT⟩)
  ok := by
    rintro args h φ w ⟨b, sl, L, p, e, rfl, W, hφ⟩ hH
    refine by_fm Tryz.func19 gen_pfail ps_pfail [ctBad, ctNow] φ noInv noMeas ⟨[e], [], [], [], [], [some (b, 0)], h, noM⟩ ⟨rfl, rfl, rfl, rfl, rfl, rfl⟩ ones_nil ?_ w hH rfl
    generalize hE : (⟨specOf _, _, _, _⟩ : Env) = E
    have s1 : E.spec 20 = ctBad.spec := by rw [← hE]; rfl
    have s2 : E.spec 18 = ctNow.spec := by rw [← hE]; rfl
    have ep : E.post = φ := by rw [← hE]
    clear hE
    have hb := W.blk
    unfold fm_pfail
    rw [th_call, if_pos (by rfl), s1]
    refine ⟨b, sl, L, p, rfl, W, ?_⟩
    unfold pFail at hφ
    cases hc : p.bad with
    | true =>
      rw [hc, if_pos rfl, W.self] at hφ
      simp [go_sem]
      iterate 3 (try simp only [then_step]; try simp [go_sem, ep])
      exact hφ
    | false =>
      rw [hc, if_neg (by decide)] at hφ
      simp [go_sem]
      simp only [then_step]; simp [go_sem]
      rw [then_step, th_call, if_pos (by rfl), s2]
      refine ⟨b, sl, L, p, rfl, W, ?_⟩
      simp [go_sem, tokv, tkv]
      iterate 6 (try simp only [then_step]; try simp [go_sem, hwrite_of hb, pcs, ep])
      exact hφ
end Go.Proofs.YthlakehilhpojaaGreatDoor
namespace Go.Proofs.YthlakehilhpojaaGreatDoor
open Go.RowKit
attribute [local go_sem] says_tt says_ff th_need th_ite th_call th_callK th_load th_store th_mk th_new th_mks th_str says_ret says_again says_app BE.den IE.den SE.den LE.den AE.den CE.den PE.den VE.den KV.val Got.den Got.cnt exI allI exL allL Ctx.push Ctx.heap Ctx.cut Ctx.bare Ctx.mark Inc.blank List.getD_cons_zero List.getD_cons_succ List.cons_append List.nil_append List.append_nil List.map_cons List.map_nil List.replicate_zero List.replicate_succ specOf ltB_t leB_t ltB_f leB_f slc_val slc_nil slc_inj pt_val pt_nil hle_noHeap hle_refl hread_set hwrite_set set_same set_set noHeap_at B_inj ones_nil and_assoc
def ctIs : Ct Tryz.prog where
  f := 35
  spec := fun args h φ => ∃ b sl L p s, args = [.pointer (some ⟨b, 0, none⟩), .string (B s)] ∧ PW h b sl L p ∧ φ (.bool (pIs L s p)) h
  ok := by
    rintro args h φ w ⟨b, sl, L, p, s, rfl, W, hφ⟩ hH
    refine by_fm Tryz.func35 gen_pis ps_pis [ctNow, ctBad] φ (noInv) (noMeas) ⟨[], [], [s], [], [], [some (b, 0)], h, noM⟩ ⟨rfl, rfl, rfl, rfl, rfl, rfl⟩ ones_nil ?_ w hH rfl
    generalize hE : (⟨specOf _, _, _, _⟩ : Env) = E
    have s_ctNow : E.spec 18 = (ctNow).spec := by rw [← hE]; rfl
    have s_ctBad : E.spec 20 = (ctBad).spec := by rw [← hE]; rfl
    have ep : E.post = φ := by rw [← hE]
    clear hE
    unfold fm_pis
    rw [th_call, if_pos (by rfl), s_ctNow]
    refine ⟨b, sl, L, p, rfl, W, ?_⟩
    simp [go_sem, tokv, tkv]
    rw [then_step, th_call, if_pos (by rfl), s_ctBad]
    refine ⟨b, sl, L, p, rfl, W, ?_⟩
    simp [go_sem]
    simp only [then_step]; simp [go_sem, ep]
    exact hφ
def ctPPass : Ct Tryz.prog where
  f := 48
  spec := fun args h φ => ∃ b sl L p, args = [.pointer (some ⟨b, 0, none⟩)] ∧ PW h b sl L p ∧ φ (tokv (tk L p)) (h.set b ⟨pcs sl (pPass L p), PT⟩)
  ok := by
    rintro args h φ w ⟨b, sl, L, p, rfl, W, hφ⟩ hH
    refine by_fm Tryz.func48 gen_ppass ps_ppass [ctNow] φ (noInv) (noMeas) ⟨[], [], [], [], [], [some (b, 0)], h, noM⟩ ⟨rfl, rfl, rfl, rfl, rfl, rfl⟩ ones_nil ?_ w hH rfl
    generalize hE : (⟨specOf _, _, _, _⟩ : Env) = E
    have s_ctNow : E.spec 18 = (ctNow).spec := by rw [← hE]; rfl
    have ep : E.post = φ := by rw [← hE]
    clear hE
    unfold fm_ppass
    have hb := W.blk
    have hl := W.len
    have ha := W.at'
    rw [th_call, if_pos (by rfl), s_ctNow]
    refine ⟨b, sl, L, p, rfl, W, ?_⟩
    unfold pPass at hφ
    by_cases hc : (tk L p).k = 8
    · rw [if_pos hc, W.self] at hφ
      simp [go_sem, tokv, tkv]
      iterate 3 (try simp only [then_step]; try simp [go_sem, ep, hc])
      simpa [tokv, tkv, hc] using hφ
    · rw [if_neg hc] at hφ
      simp [go_sem, tokv, tkv]
      iterate 12 (try simp only [then_step]; try simp [go_sem, ep, hc, hread_of hb, hwrite_of hb, pcs])
      exact ⟨by omega, by omega, by simpa [tokv, tkv, pcs] using hφ⟩
def ctTry : Ct Tryz.prog where
  f := 63
  spec := fun args h φ => ∃ b sl L p s, args = [.pointer (some ⟨b, 0, none⟩), .string (B s)] ∧ PW h b sl L p ∧ (if pIs L s p then φ (.bool true) (h.set b ⟨pcs sl (pPass L p), PT⟩) else φ (.bool false) h)
  ok := by
    rintro args h φ w ⟨b, sl, L, p, s, rfl, W, hφ⟩ hH
    refine by_fm Tryz.func63 gen_ptry ps_ptry [ctIs, ctPPass] φ (noInv) (noMeas) ⟨[], [], [s], [], [], [some (b, 0)], h, noM⟩ ⟨rfl, rfl, rfl, rfl, rfl, rfl⟩ ones_nil ?_ w hH rfl
    generalize hE : (⟨specOf _, _, _, _⟩ : Env) = E
    have s_ctIs : E.spec 35 = (ctIs).spec := by rw [← hE]; rfl
    have s_ctPPass : E.spec 48 = (ctPPass).spec := by rw [← hE]; rfl
    have ep : E.post = φ := by rw [← hE]
    clear hE
    unfold fm_ptry
    rw [th_call, if_pos (by rfl), s_ctIs]
    refine ⟨b, sl, L, p, s, rfl, W, ?_⟩
    cases hc : pIs L s p with
    | true =>
      rw [hc, if_pos rfl] at hφ
      simp [go_sem]
      simp only [then_step]; simp [go_sem]
      rw [then_step, th_call, if_pos (by rfl), s_ctPPass]
      refine ⟨b, sl, L, p, rfl, W, ?_⟩
      simp [go_sem, tokv, tkv]
      simp only [then_step]; simp [go_sem, ep]
      exact hφ
    | false =>
      rw [hc, if_neg (by decide)] at hφ
      simp [go_sem]
      iterate 2 (try simp only [then_step]; try simp [go_sem, ep])
      exact hφ
def ctMust : Ct Tryz.prog where
  f := 57
  spec := fun args h φ => ∃ b sl L p s, args = [.pointer (some ⟨b, 0, none⟩), .string (B s)] ∧ PW h b sl L p ∧ φ (tokv (tk L p)) (h.set b ⟨pcs sl (pMust L s p), PT⟩)
  ok := by
    rintro args h φ w ⟨b, sl, L, p, s, rfl, W, hφ⟩ hH
    refine by_fm Tryz.func57 gen_pmust ps_pmust [ctNow, ctTry, ctFail] φ (noInv) (noMeas) ⟨[], [], [s], [], [], [some (b, 0)], h, noM⟩ ⟨rfl, rfl, rfl, rfl, rfl, rfl⟩ ones_nil ?_ w hH rfl
    generalize hE : (⟨specOf _, _, _, _⟩ : Env) = E
    have s_ctNow : E.spec 18 = (ctNow).spec := by rw [← hE]; rfl
    have s_ctTry : E.spec 63 = (ctTry).spec := by rw [← hE]; rfl
    have s_ctFail : E.spec 19 = (ctFail).spec := by rw [← hE]; rfl
    have ep : E.post = φ := by rw [← hE]
    clear hE
    unfold fm_pmust
    rw [th_call, if_pos (by rfl), s_ctNow]
    refine ⟨b, sl, L, p, rfl, W, ?_⟩
    simp [go_sem, tokv, tkv]
    rw [then_step, th_call, if_pos (by rfl), s_ctTry]
    refine ⟨b, sl, L, p, s, rfl, W, ?_⟩
    unfold pMust at hφ
    cases hc : pIs L s p with
    | true =>
      rw [hc, if_pos rfl] at hφ
      rw [if_pos rfl]
      simp [go_sem]
      iterate 2 (try simp only [then_step]; try simp [go_sem, ep])
      simpa [tokv, tkv] using hφ
    | false =>
      rw [hc, if_neg (by decide)] at hφ
      rw [if_neg (by decide)]
      simp [go_sem]
      simp only [then_step]; simp [go_sem]
      rw [then_step, th_call, if_pos (by rfl), s_ctFail]
      refine ⟨b, sl, L, p, 5, rfl, W, ?_⟩
      simp [go_sem]
      simp only [then_step]; simp [go_sem, ep]
      simpa [tokv, tkv] using hφ
def ctOpen : Ct Tryz.prog where
  f := 60
  spec := fun args h φ => ∃ b sl L p s, args = [.pointer (some ⟨b, 0, none⟩), .string (B s)] ∧ PW h b sl L p ∧ φ (tokv (tk L p)) (h.set b ⟨pcs sl (pOpen L s p), PT⟩)
  ok := by
    rintro args h φ w ⟨b, sl, L, p, s, rfl, W, hφ⟩ hH
    refine by_fm Tryz.func60 gen_popen ps_popen [ctIs, ctFail, ctMust] φ (noInv) (noMeas) ⟨[], [], [s], [], [], [some (b, 0)], h, noM⟩ ⟨rfl, rfl, rfl, rfl, rfl, rfl⟩ ones_nil ?_ w hH rfl
    generalize hE : (⟨specOf _, _, _, _⟩ : Env) = E
    have s_ctIs : E.spec 35 = (ctIs).spec := by rw [← hE]; rfl
    have s_ctFail : E.spec 19 = (ctFail).spec := by rw [← hE]; rfl
    have s_ctMust : E.spec 57 = (ctMust).spec := by rw [← hE]; rfl
    have ep : E.post = φ := by rw [← hE]
    clear hE
    unfold fm_popen
    have hb := W.blk
    have d0 := W.d0
    have d1 := W.d1
    have hfin : ∀ (p1 : PS) (x : Int) (bb : Bool) (hh : Hp) (W1 : PW hh b sl L p1) (hd : p1.d = p.d) (ht : tk L p1 = tk L p) (hs : ∀ o, hh.set b o = h.set b o) (he : p1 = (if (pIs L s p && p.d == 40) = true then pFail L 6 p else p)),
        Then E (fm_popen.k.k.k.k.e) ⟨[x], [bb], [s], [], [], [some (b, 0)], hh, noM⟩ := by
      intro p1 x bb hh W1 hd ht hs he
      have A := adv_must W.lw s p1
      have hAd := A.d
      have W2 := W1.adv0 A
      have hb2 := W2.blk
      unfold fm_popen
      simp only [Fm.k, Fm.e]
      rw [then_step, th_call, if_pos (by rfl), s_ctMust]
      refine ⟨b, sl, L, p1, s, rfl, W1, ?_⟩
      simp [go_sem, tokv, tkv]
      iterate 12 (try simp only [then_step]; try simp [go_sem, ep, pcs])
      refine ⟨by omega, by omega, ?_⟩
      unfold pOpen at hφ
      simp only [← he] at hφ
      rw [hs]
      simpa [tokv, tkv, pcs, ht] using hφ
    unfold fm_popen at hfin
    simp only [Fm.k, Fm.e] at hfin
    rw [th_call, if_pos (by rfl), s_ctIs]
    refine ⟨b, sl, L, p, s, rfl, W, ?_⟩
    cases hc : pIs L s p with
    | false =>
      simp [go_sem]
      iterate 4 (try simp only [then_step]; try simp [go_sem])
      exact hfin p 0 false h W rfl rfl (fun _ => rfl) (by rw [hc]; rfl)
    | true =>
      simp [go_sem]
      by_cases h40 : p.d = 40
      · iterate 4 (try simp only [then_step]; try simp [go_sem, hread_of hb, pcs, h40])
        rw [then_step, th_call, if_pos (by rfl), s_ctFail]
        refine ⟨b, sl, L, p, 6, rfl, W, ?_⟩
        simp [go_sem]
        have A := adv_fail (L := L) 6 p
        have hne : tk L (pFail L 6 p) = tk L p := by unfold pFail; split <;> rfl
        exact hfin (pFail L 6 p) 40 true _ (W.adv0 A) (by rw [A.d]; omega) hne (fun o => by rw [set_set]) (by rw [hc, h40]; rfl)
      · iterate 4 (try simp only [then_step]; try simp [go_sem, hread_of hb, pcs, h40])
        exact hfin p p.d true h W rfl rfl (fun _ => rfl) (by rw [hc]; simp [h40])
def ctShut : Ct Tryz.prog where
  f := 62
  spec := fun args h φ => ∃ b sl L p s, args = [.pointer (some ⟨b, 0, none⟩), .string (B s)] ∧ PW h b sl L p ∧ φ (.tuple #[]) (h.set b ⟨pcs sl (pShut L s p), PT⟩)
  ok := by
    rintro args h φ w ⟨b, sl, L, p, s, rfl, W, hφ⟩ hH
    refine by_fm Tryz.func62 gen_pshut ps_pshut [ctMust] φ (noInv) (noMeas) ⟨[], [], [s], [], [], [some (b, 0)], h, noM⟩ ⟨rfl, rfl, rfl, rfl, rfl, rfl⟩ ones_nil ?_ w hH rfl
    generalize hE : (⟨specOf _, _, _, _⟩ : Env) = E
    have s_ctMust : E.spec 57 = (ctMust).spec := by rw [← hE]; rfl
    have ep : E.post = φ := by rw [← hE]
    clear hE
    unfold fm_pshut
    have d0 := W.d0
    have d1 := W.d1
    have A := adv_must W.lw s p
    have hAd := A.d
    have hb2 := (W.adv0 A).blk
    rw [th_call, if_pos (by rfl), s_ctMust]
    refine ⟨b, sl, L, p, s, rfl, W, ?_⟩
    simp [go_sem, tokv, tkv]
    iterate 12 (try simp only [then_step]; try simp [go_sem, ep, pcs])
    refine ⟨by omega, by omega, ?_⟩
    simpa [pShut, pcs] using hφ
def ctPWord : Ct Tryz.prog where
  f := 59
  spec := fun args h φ => ∃ b sl L p k, args = [.pointer (some ⟨b, 0, none⟩), .int .u8 k] ∧ PW h b sl L p ∧ φ (tokv (tk L p)) (h.set b ⟨pcs sl (pWord L k p), PT⟩)
  ok := by
    rintro args h φ w ⟨b, sl, L, p, k, rfl, W, hφ⟩ hH
    refine by_fm Tryz.func59 gen_pword ps_pword [ctNow, ctBad, ctFail, ctPPass] φ (noInv) (noMeas) ⟨[k], [], [], [], [], [some (b, 0)], h, noM⟩ ⟨rfl, rfl, rfl, rfl, rfl, rfl⟩ ones_nil ?_ w hH rfl
    generalize hE : (⟨specOf _, _, _, _⟩ : Env) = E
    have s_ctNow : E.spec 18 = (ctNow).spec := by rw [← hE]; rfl
    have s_ctBad : E.spec 20 = (ctBad).spec := by rw [← hE]; rfl
    have s_ctFail : E.spec 19 = (ctFail).spec := by rw [← hE]; rfl
    have s_ctPPass : E.spec 48 = (ctPPass).spec := by rw [← hE]; rfl
    have ep : E.post = φ := by rw [← hE]
    clear hE
    unfold fm_pword
    rw [th_call, if_pos (by rfl), s_ctNow]
    refine ⟨b, sl, L, p, rfl, W, ?_⟩
    simp [go_sem, tokv, tkv]
    rw [then_step, th_call, if_pos (by rfl), s_ctBad]
    refine ⟨b, sl, L, p, rfl, W, ?_⟩
    unfold pWord at hφ
    by_cases hc : (p.bad || !((tk L p).k == k)) = true
    · rw [if_pos hc] at hφ
      simp [go_sem]
      rw [then_step, th_ite, if_pos (by simpa [go_sem] using hc)]
      rw [then_step, th_call, if_pos (by rfl), s_ctFail]
      refine ⟨b, sl, L, p, 5, rfl, W, ?_⟩
      simp [go_sem]
      simp only [then_step]; simp [go_sem, ep]
      simpa [tokv, tkv] using hφ
    · rw [if_neg hc] at hφ
      simp [go_sem]
      rw [then_step, th_ite, if_neg (by simpa [go_sem] using hc)]
      rw [then_step, th_call, if_pos (by rfl), s_ctPPass]
      refine ⟨b, sl, L, p, rfl, W, ?_⟩
      simp [go_sem, tokv, tkv]
      simp only [then_step]; simp [go_sem, ep]
      simpa [tokv, tkv] using hφ
end Go.Proofs.YthlakehilhpojaaGreatDoor
namespace Go.Proofs.YthlakehilhpojaaGreatDoor
open Go.RowKit
attribute [local go_sem] says_tt says_ff th_need th_ite th_call th_callK th_load th_store th_mk th_new th_mks th_str says_ret says_again says_app BE.den IE.den SE.den LE.den AE.den CE.den PE.den VE.den KV.val Got.den Got.cnt exI allI exL allL Ctx.push Ctx.heap Ctx.cut Ctx.bare Ctx.mark Inc.blank List.getD_cons_zero List.getD_cons_succ List.cons_append List.nil_append List.append_nil List.map_cons List.map_nil List.replicate_zero List.replicate_succ specOf ltB_t leB_t ltB_f leB_f slc_val slc_nil slc_inj pt_val pt_nil hle_noHeap hle_refl hread_set hwrite_set set_same set_set noHeap_at B_inj ones_nil and_assoc
def fm_make1 : Fm := (.new [(.i .u8 (.x 0)), (.i .i64 (.x 2)), (.i .i64 (.x 3)), (.i .i64 (.c 0)), (.i .i64 (.c 0)), (.s (.c [])), (.sl (.x 0))] 72
  (.ret (.p (.one (.pt 0)))))
theorem gen_make1 : genFn ⟨true, [15]⟩ Tryz.prog (fun l => ([] : List LAnn).getD l ⟨[], [], []⟩) Tryz.f80 = fm_make1 := by kernel_rfl
theorem ps_make1 : freshPs Tryz.prog .zero Tryz.f80.params.toList = some ([(.one (.i .u8 (.x 0))), (.agg [(.i .u8 (.x 1)), (.i .i64 (.x 2)), (.i .i64 (.x 3)), (.i .i64 (.x 4)), (.s (.x 0))]), (.one (.sl (.x 0)))], ⟨5, 0, 1, 0, 1, 0⟩) := by kernel_rfl
def fm_named : Fm := (.call (.c true) false 80 [(.one (.i .u8 (.x 0))), (.agg [(.i .u8 (.x 1)), (.i .i64 (.x 2)), (.i .i64 (.x 3)), (.i .i64 (.x 4)), (.s (.x 0))]), (.one (.sl (.x 0)))] (.p (.one (.pt 0))) ⟨0, 0, 0, 0, 0, 1⟩
  (.need (.c true) (.nnp 0)
  (.need (.c true) (.nnp 0)
  (.need (.c true) (.nnp 0)
  (.store (.pt 0 5) [(.s (.x 1))]
  (.ret (.p (.one (.pt 0)))))))))
theorem gen_named : genFn ⟨true, []⟩ Tryz.prog (fun l => ([] : List LAnn).getD l ⟨[], [], []⟩) Tryz.f58 = fm_named := by kernel_rfl
theorem ps_named : freshPs Tryz.prog .zero Tryz.f58.params.toList = some ([(.one (.i .u8 (.x 0))), (.agg [(.i .u8 (.x 1)), (.i .i64 (.x 2)), (.i .i64 (.x 3)), (.i .i64 (.x 4)), (.s (.x 0))]), (.one (.s (.x 1))), (.one (.sl (.x 0)))], ⟨5, 0, 2, 0, 1, 0⟩) := by kernel_rfl
def fm_numbered : Fm := (.call (.c true) false 80 [(.one (.i .u8 (.x 0))), (.agg [(.i .u8 (.x 1)), (.i .i64 (.x 2)), (.i .i64 (.x 3)), (.i .i64 (.x 4)), (.s (.x 0))]), (.one (.sl (.x 0)))] (.p (.one (.pt 0))) ⟨0, 0, 0, 0, 0, 1⟩
  (.need (.c true) (.nnp 0)
  (.need (.c true) (.nnp 0)
  (.need (.c true) (.nnp 0)
  (.store (.pt 0 4) [(.i .i64 (.x 5))]
  (.ret (.p (.one (.pt 0)))))))))
theorem gen_numbered : genFn ⟨true, []⟩ Tryz.prog (fun l => ([] : List LAnn).getD l ⟨[], [], []⟩) Tryz.f49 = fm_numbered := by kernel_rfl
theorem ps_numbered : freshPs Tryz.prog .zero Tryz.f49.params.toList = some ([(.one (.i .u8 (.x 0))), (.agg [(.i .u8 (.x 1)), (.i .i64 (.x 2)), (.i .i64 (.x 3)), (.i .i64 (.x 4)), (.s (.x 0))]), (.one (.i .i64 (.x 5))), (.one (.sl (.x 0)))], ⟨6, 0, 1, 0, 1, 0⟩) := by kernel_rfl
def IT : TypeId := 72
def PI : TypeId := 49
def ptrv (v : Nat) : Value := .pointer (some ⟨v, 0, none⟩)
def itc (k l c n : Int) (x : List UInt8) (sl : Slc) : List Value := [.int .u8 k, .int .i64 l, .int .i64 c, .int .i64 0, .int .i64 n, .string (B x), sl.val]
/-- A row of trees' addresses. -/
structure Kids (h : Hp) (sl : Slc) (vs : List Nat) : Prop where
  own : OwnS h sl (vs.map ptrv) PI 1
  len : sl.n = vs.length
mutual
/-- A tree in memory. -/
def It (h : Hp) : Nat → Tr → Prop
  | v, .nd k l c n x ks => ∃ sl vs, h v = some ⟨itc k l c n x sl, IT⟩ ∧ Kids h sl vs ∧ Its h vs ks
def Its (h : Hp) : List Nat → List Tr → Prop
  | [], [] => True
  | v :: vs, t :: ts => It h v t ∧ Its h vs ts
  | _, _ => False
end
theorem OwnS.le {h k : Hp} {s : Slc} {xs : List Value} {ty : TypeId} {sz : Nat} (ho : OwnS h s xs ty sz) (hl : HLe h k) : OwnS k s xs ty sz := by
  rcases ho with h0 | ⟨b, o, h1, h2, h3⟩
  · exact .inl h0
  · exact .inr ⟨b, o, h1, hl _ _ h2, h3⟩
theorem Kids.le {h k : Hp} {s : Slc} {vs : List Nat} (hk : Kids h s vs) (hl : HLe h k) : Kids k s vs := ⟨hk.own.le hl, hk.len⟩
mutual
theorem It.le {h k : Hp} (hl : HLe h k) : ∀ (v : Nat) (t : Tr), It h v t → It k v t
  | v, .nd _ _ _ _ _ ks, hi => by
    obtain ⟨sl, vs, h1, h2, h3⟩ := hi
    exact ⟨sl, vs, hl _ _ h1, h2.le hl, Its.le hl vs ks h3⟩
theorem Its.le {h k : Hp} (hl : HLe h k) : ∀ (vs : List Nat) (ts : List Tr), Its h vs ts → Its k vs ts
  | [], [], _ => trivial
  | v :: vs, t :: ts, hi => ⟨It.le hl v t hi.1, Its.le hl vs ts hi.2⟩
  | [], _ :: _, hi => hi
  | _ :: _, [], hi => hi
end
theorem Its.app {h : Hp} : ∀ {vs us : List Nat} {ts rs : List Tr}, Its h vs ts → Its h us rs → Its h (vs ++ us) (ts ++ rs)
  | [], _, [], _, _, hb => hb
  | _ :: _, _, _ :: _, _, ha, hb => ⟨ha.1, Its.app ha.2 hb⟩
  | [], _, _ :: _, _, ha, _ => by cases ha
  | _ :: _, _, [], _, ha, _ => by cases ha
theorem Its.len {h : Hp} : ∀ {vs : List Nat} {ts : List Tr}, Its h vs ts → vs.length = ts.length
  | [], [], _ => rfl
  | _ :: _, _ :: _, ha => by simp [Its.len ha.2]
  | [], _ :: _, ha => by cases ha
  | _ :: _, [], ha => by cases ha
def uni (g g' : Hp) : Hp := fun c => (g c).or (g' c)
theorem le_uni (g g' : Hp) : HLe g (uni g g') := fun c o h => by unfold uni; rw [h]; rfl
theorem uni_le {g g' k : Hp} (h : HLe g k) (h' : HLe g' k) : HLe (uni g g') k := fun c o hc => by
  unfold uni at hc
  cases hg : g c with
  | some x => rw [hg] at hc; cases hc; exact h c _ hg
  | none => rw [hg] at hc; exact h' c _ hc
theorem uni_none {g g' : Hp} {c : Nat} (h : g c = none) (h' : g' c = none) : uni g g' c = none := by unfold uni; rw [h, h']; rfl
/-- What is known but of one block stays. -/
def Keeps (b : Nat) (h k : Hp) : Prop := ∀ c o, c ≠ b → h c = some o → k c = some o
/-- The parser at work: since h, it has made g. -/
structure At (h : Hp) (b : Nat) (sl : Slc) (L : List Tok) (p : PS) (k g : Hp) : Prop where
  kp : Keeps b h k
  pw : PW k b sl L p
  hb : h b ≠ none
  le : HLe g k
  fr : ∀ c, h c ≠ none → g c = none
theorem At.start {h : Hp} {b : Nat} {sl : Slc} {L : List Tok} {p : PS} (W : PW h b sl L p) : At h b sl L p h noHeap :=
  ⟨fun _ _ _ h => h, W, by rw [W.blk]; simp, fun _ _ h => (by cases h), fun _ _ => rfl⟩
section
variable {h : Hp} {b : Nat} {sl : Slc} {L : List Tok} {p : PS} {k g : Hp}
theorem At.gb (A : At h b sl L p k g) : g b = none := A.fr b A.hb
theorem At.move (A : At h b sl L p k g) {q : PS} (W : PW (k.set b ⟨pcs sl q, PT⟩) b sl L q) : At h b sl L q (k.set b ⟨pcs sl q, PT⟩) g :=
  ⟨fun c o hc ho => by rw [set_ne _ hc]; exact A.kp c o hc ho, W, A.hb, fun c o hc => by rw [set_ne _ (fun e => by rw [e, A.gb] at hc; cases hc)]; exact A.le c o hc, A.fr⟩
theorem At.dom (A : At h b sl L p k g) {c : Nat} (hc : h c ≠ none) : k c ≠ none := by
  by_cases e : c = b
  · rw [e, A.pw.blk]; simp
  · cases ho : h c with
    | none => exact absurd ho hc
    | some o => rw [A.kp c o e ho]; simp
/-- Work done since k. -/
theorem At.then (A : At h b sl L p k g) {q : PS} {k' g' : Hp} (A' : At k b sl L q k' g') : At h b sl L q k' (uni g g') :=
  ⟨fun c o hc ho => A'.kp c o hc (A.kp c o hc ho), A'.pw, A.hb, uni_le (fun c o hc => A'.kp c o (fun e => by rw [e, A.gb] at hc; cases hc) (A.le c o hc)) A'.le, fun c hc => uni_none (A.fr c hc) (A'.fr c (A.dom hc))⟩
theorem At.disj (A : At h b sl L p k g) {q : PS} {k' g' : Hp} (A' : At k b sl L q k' g') : HLe g' (uni g g') := fun c o hc => by
  unfold uni
  cases hg : g c with
  | none => exact hc
  | some x => have := A'.fr c (by rw [A.le c x hg]; simp); rw [this] at hc; cases hc
/-- A new block. -/
theorem At.new (A : At h b sl L p k g) {c : Nat} (hc : k c = none) (o : HO) : At h b sl L p (k.set c o) (g.set c o) := by
  have hcb : c ≠ b := fun e => by rw [e, A.pw.blk] at hc; cases hc
  have hgc : g c = none := by
    cases hg : g c with
    | none => rfl
    | some x => rw [A.le c x hg] at hc; cases hc
  refine ⟨fun d x hd hx => ?_, ⟨?_, A.pw.tok.keep fun d x _ hd => ?_, A.pw.lw, A.pw.len, A.pw.at', A.pw.d0, A.pw.d1⟩, A.hb, fun d x hd => ?_, fun d hd => ?_⟩
  · rw [set_ne _ (fun e => A.dom (c := d) (by rw [hx]; simp) (by rw [e]; exact hc))]; exact A.kp d x hd hx
  · rw [set_ne _ hcb.symm]; exact A.pw.blk
  · rw [set_ne _ (fun e => by rw [e, hc] at hd; cases hd)]; exact hd
  · by_cases e : d = c
    · rw [e, set_same] at hd ⊢; exact hd
    · rw [set_ne _ e] at hd ⊢; exact A.le d x hd
  · rw [set_ne _ (fun e => A.dom hd (by rw [e]; exact hc))]; exact A.fr d hd
theorem At.gnew (A : At h b sl L p k g) {c : Nat} (hc : k c = none) (o : HO) : HLe g (g.set c o) := by
  refine hle_set ?_ o
  cases hg : g c with
  | none => rfl
  | some x => rw [A.le c x hg] at hc; cases hc
end
theorem kids_nil (h : Hp) : Kids h ⟨none, 0, 0⟩ [] := ⟨.inl ⟨rfl, rfl⟩, rfl⟩
theorem kids_mk (g : Hp) (c : Nat) (vs : List Nat) (hn : vs.length ≤ 100) : Kids (g.set c ⟨vs.map ptrv, PI⟩) ⟨some (c, 0), vs.length, vs.length⟩ vs :=
  ⟨.inr ⟨c, _, rfl, set_same _ _ _, rfl, by simp, Nat.le_refl _, Nat.le_trans hn (by decide), by simp [List.take_of_length_le]⟩, rfl⟩
/-- A node over rows that are there. -/
theorem it_node {g : Hp} {v : Nat} {k l c n : Int} {x : List UInt8} {s : Slc} {vs : List Nat} {ks : List Tr} (hv : g v = none) (hk : Kids g s vs) (hi : Its g vs ks) : It (g.set v ⟨itc k l c n x s, IT⟩) v (.nd k l c n x ks) :=
  ⟨s, vs, set_same _ _ _, hk.le (hle_set hv _), Its.le (hle_set hv _) _ _ hi⟩
def ctMake1 : Ct Tryz.prog where
  f := 80
  spec := fun args h φ => ∃ k t s, args = [.int .u8 k, tokv t, s.val] ∧ ∀ v, h v = none → φ (ptrv v) (h.set v ⟨itc k t.l t.c 0 [] s, IT⟩)
  ok := by
    rintro args h φ w ⟨k, t, s, rfl, hφ⟩ hH
    refine by_fm Tryz.func80 gen_make1 ps_make1 [] φ (noInv) (noMeas) ⟨[k, t.k, t.l, t.c, t.n], [], [t.x], [], [s], [], h, noM⟩ ⟨rfl, rfl, rfl, rfl, rfl, rfl⟩ ones_nil ?_ w hH rfl
    generalize hE : (⟨specOf _, _, _, _⟩ : Env) = E
    have ep : E.post = φ := by rw [← hE]
    clear hE
    unfold fm_make1
    rw [th_new]
    intro v hv
    simp only [then_step]; simp [go_sem, ep]
    exact hφ v hv
def ctNamed : Ct Tryz.prog where
  f := 58
  spec := fun args h φ => ∃ k t x s, args = [.int .u8 k, tokv t, .string (B x), s.val] ∧ ∀ v, h v = none → φ (ptrv v) (h.set v ⟨itc k t.l t.c 0 x s, IT⟩)
  ok := by
    rintro args h φ w ⟨k, t, x, s, rfl, hφ⟩ hH
    refine by_fm Tryz.func58 gen_named ps_named [ctMake1] φ (noInv) (noMeas) ⟨[k, t.k, t.l, t.c, t.n], [], [t.x, x], [], [s], [], h, noM⟩ ⟨rfl, rfl, rfl, rfl, rfl, rfl⟩ ones_nil ?_ w hH rfl
    generalize hE : (⟨specOf _, _, _, _⟩ : Env) = E
    have s_ctMake1 : E.spec 80 = (ctMake1).spec := by rw [← hE]; rfl
    have ep : E.post = φ := by rw [← hE]
    clear hE
    unfold fm_named
    rw [th_call, if_pos (by rfl), s_ctMake1]
    refine ⟨k, t, s, rfl, fun v hv => ?_⟩
    simp [go_sem, ptrv]
    refine ⟨some (v, 0), rfl, ?_⟩
    iterate 12 (try simp only [then_step]; try simp [go_sem, ep, itc, hwrite_set])
    exact hφ v hv
def ctNumbered : Ct Tryz.prog where
  f := 49
  spec := fun args h φ => ∃ k t n s, args = [.int .u8 k, tokv t, .int .i64 n, s.val] ∧ ∀ v, h v = none → φ (ptrv v) (h.set v ⟨itc k t.l t.c n [] s, IT⟩)
  ok := by
    rintro args h φ w ⟨k, t, n, s, rfl, hφ⟩ hH
    refine by_fm Tryz.func49 gen_numbered ps_numbered [ctMake1] φ (noInv) (noMeas) ⟨[k, t.k, t.l, t.c, t.n, n], [], [t.x], [], [s], [], h, noM⟩ ⟨rfl, rfl, rfl, rfl, rfl, rfl⟩ ones_nil ?_ w hH rfl
    generalize hE : (⟨specOf _, _, _, _⟩ : Env) = E
    have s_ctMake1 : E.spec 80 = (ctMake1).spec := by rw [← hE]; rfl
    have ep : E.post = φ := by rw [← hE]
    clear hE
    unfold fm_numbered
    rw [th_call, if_pos (by rfl), s_ctMake1]
    refine ⟨k, t, s, rfl, fun v hv => ?_⟩
    simp [go_sem, ptrv]
    refine ⟨some (v, 0), rfl, ?_⟩
    iterate 12 (try simp only [then_step]; try simp [go_sem, ep, itc, hwrite_set])
    exact hφ v hv
end Go.Proofs.YthlakehilhpojaaGreatDoor
namespace Go.Proofs.YthlakehilhpojaaGreatDoor
open Go.RowKit
attribute [local go_sem] says_tt says_ff th_need th_ite th_call th_callK th_load th_store th_mk th_new th_mks th_str says_ret says_again says_app BE.den IE.den SE.den LE.den AE.den CE.den PE.den VE.den KV.val Got.den Got.cnt exI allI exL allL Ctx.push Ctx.heap Ctx.cut Ctx.bare Ctx.mark Inc.blank List.getD_cons_zero List.getD_cons_succ List.cons_append List.nil_append List.append_nil List.map_cons List.map_nil List.replicate_zero List.replicate_succ specOf ltB_t leB_t ltB_f leB_f slc_val slc_nil slc_inj pt_val pt_nil hle_noHeap hle_refl hread_set hwrite_set set_same set_set noHeap_at B_inj ones_nil and_assoc
def fm_pkind : Fm := (.call (.c true) false 18 [(.one (.pt 0))] (.p (.agg [(.i .u8 (.x 0)), (.i .i64 (.x 1)), (.i .i64 (.x 2)), (.i .i64 (.x 3)), (.s (.x 0))])) ⟨4, 0, 1, 0, 0, 0⟩
  (.call (.c true) false 20 [(.one (.pt 0))] (.p (.one (.b (.x 0)))) ⟨0, 1, 0, 0, 0, 0⟩
  (.ite (.x 0)
  (.call (.c true) false 19 [(.one (.pt 0)), (.one (.i .i64 (.c 5)))] (.tup []) ⟨0, 0, 0, 0, 0, 0⟩
  (.call (.c true) false 80 [(.one (.i .u8 (.c 15))), (.agg [(.i .u8 (.x 0)), (.i .i64 (.x 1)), (.i .i64 (.x 2)), (.i .i64 (.x 3)), (.s (.x 0))]), (.one (.sl .nil))] (.p (.one (.pt 1))) ⟨0, 0, 0, 0, 0, 1⟩
  (.ret (.p (.one (.pt 1))))))
  (.call (.c true) false 63 [(.one (.pt 0)), (.one (.s (.c [105, 110, 116])))] (.p (.one (.b (.x 1)))) ⟨0, 1, 0, 0, 0, 0⟩
  (.ite (.x 1)
  (.call (.c true) false 80 [(.one (.i .u8 (.c 15))), (.agg [(.i .u8 (.x 0)), (.i .i64 (.x 1)), (.i .i64 (.x 2)), (.i .i64 (.x 3)), (.s (.x 0))]), (.one (.sl .nil))] (.p (.one (.pt 1))) ⟨0, 0, 0, 0, 0, 1⟩
  (.ret (.p (.one (.pt 1)))))
  (.call (.c true) false 63 [(.one (.pt 0)), (.one (.s (.c [98, 111, 111, 108])))] (.p (.one (.b (.x 2)))) ⟨0, 1, 0, 0, 0, 0⟩
  (.ite (.x 2)
  (.call (.c true) false 80 [(.one (.i .u8 (.c 16))), (.agg [(.i .u8 (.x 0)), (.i .i64 (.x 1)), (.i .i64 (.x 2)), (.i .i64 (.x 3)), (.s (.x 0))]), (.one (.sl .nil))] (.p (.one (.pt 1))) ⟨0, 0, 0, 0, 0, 1⟩
  (.ret (.p (.one (.pt 1)))))
  (.call (.c true) false 63 [(.one (.pt 0)), (.one (.s (.c [115, 116, 114])))] (.p (.one (.b (.x 3)))) ⟨0, 1, 0, 0, 0, 0⟩
  (.ite (.x 3)
  (.call (.c true) false 80 [(.one (.i .u8 (.c 17))), (.agg [(.i .u8 (.x 0)), (.i .i64 (.x 1)), (.i .i64 (.x 2)), (.i .i64 (.x 3)), (.s (.x 0))]), (.one (.sl .nil))] (.p (.one (.pt 1))) ⟨0, 0, 0, 0, 0, 1⟩
  (.ret (.p (.one (.pt 1)))))
  (.call (.c true) false 63 [(.one (.pt 0)), (.one (.s (.c [99, 111, 109, 112])))] (.p (.one (.b (.x 4)))) ⟨0, 1, 0, 0, 0, 0⟩
  (.ite (.x 4)
  (.call (.c true) false 80 [(.one (.i .u8 (.c 18))), (.agg [(.i .u8 (.x 0)), (.i .i64 (.x 1)), (.i .i64 (.x 2)), (.i .i64 (.x 3)), (.s (.x 0))]), (.one (.sl .nil))] (.p (.one (.pt 1))) ⟨0, 0, 0, 0, 0, 1⟩
  (.ret (.p (.one (.pt 1)))))
  (.ite (.eqI (.x 0) (.c 2))
  (.call (.c true) false 48 [(.one (.pt 0))] (.p (.agg [(.i .u8 (.x 4)), (.i .i64 (.x 5)), (.i .i64 (.x 6)), (.i .i64 (.x 7)), (.s (.x 1))])) ⟨4, 0, 1, 0, 0, 0⟩
  (.call (.c true) false 58 [(.one (.i .u8 (.c 19))), (.agg [(.i .u8 (.x 0)), (.i .i64 (.x 1)), (.i .i64 (.x 2)), (.i .i64 (.x 3)), (.s (.x 0))]), (.one (.s (.x 1))), (.one (.sl .nil))] (.p (.one (.pt 1))) ⟨0, 0, 0, 0, 0, 1⟩
  (.ret (.p (.one (.pt 1))))))
  (.call (.c true) false 35 [(.one (.pt 0)), (.one (.s (.c [91])))] (.p (.one (.b (.x 5)))) ⟨0, 1, 0, 0, 0, 0⟩
  (.ite (.x 5)
  (.call (.c true) false 60 [(.one (.pt 0)), (.one (.s (.c [91])))] (.p (.agg [(.i .u8 (.x 4)), (.i .i64 (.x 5)), (.i .i64 (.x 6)), (.i .i64 (.x 7)), (.s (.x 1))])) ⟨4, 0, 1, 0, 0, 0⟩
  (.call (.c true) false 64 [(.one (.pt 0))] (.p (.one (.pt 1))) ⟨0, 0, 0, 0, 0, 1⟩
  (.call (.c true) false 62 [(.one (.pt 0)), (.one (.s (.c [93])))] (.tup []) ⟨0, 0, 0, 0, 0, 0⟩
  (.mk [(.pt 1)] 49 1
  (.call (.c true) false 80 [(.one (.i .u8 (.c 20))), (.agg [(.i .u8 (.x 0)), (.i .i64 (.x 1)), (.i .i64 (.x 2)), (.i .i64 (.x 3)), (.s (.x 0))]), (.one (.sl (.x 0)))] (.p (.one (.pt 2))) ⟨0, 0, 0, 0, 0, 1⟩
  (.ret (.p (.one (.pt 2)))))))))
  (.call (.c true) false 19 [(.one (.pt 0)), (.one (.i .i64 (.c 5)))] (.tup []) ⟨0, 0, 0, 0, 0, 0⟩
  (.call (.c true) false 80 [(.one (.i .u8 (.c 15))), (.agg [(.i .u8 (.x 0)), (.i .i64 (.x 1)), (.i .i64 (.x 2)), (.i .i64 (.x 3)), (.s (.x 0))]), (.one (.sl .nil))] (.p (.one (.pt 1))) ⟨0, 0, 0, 0, 0, 1⟩
  (.ret (.p (.one (.pt 1))))))))))))))))))))
theorem gen_pkind : genFn ⟨true, []⟩ Tryz.prog (fun l => ([] : List LAnn).getD l ⟨[], [], []⟩) Tryz.f64 = fm_pkind := by kernel_rfl
theorem ps_pkind : freshPs Tryz.prog .zero Tryz.f64.params.toList = some ([(.one (.pt 0))], ⟨0, 0, 0, 0, 0, 1⟩) := by kernel_rfl
section
variable {h : Hp} {b : Nat} {sl : Slc} {L : List Tok} {p : PS} {k g : Hp}
theorem At.fail (A : At h b sl L p k g) (e : Int) : At h b sl L (pFail L e p) (k.set b ⟨pcs sl (pFail L e p), PT⟩) g := A.move (A.pw.adv0 (adv_fail e p))
theorem At.pass (A : At h b sl L p k g) : At h b sl L (pPass L p) (k.set b ⟨pcs sl (pPass L p), PT⟩) g := A.move (A.pw.adv0 (adv_pass A.pw.lw p))
theorem At.must (A : At h b sl L p k g) (s : List UInt8) : At h b sl L (pMust L s p) (k.set b ⟨pcs sl (pMust L s p), PT⟩) g := A.move (A.pw.adv0 (adv_must A.pw.lw s p))
theorem At.word (A : At h b sl L p k g) (n : Int) : At h b sl L (pWord L n p) (k.set b ⟨pcs sl (pWord L n p), PT⟩) g := A.move (A.pw.adv0 (adv_word A.pw.lw n p))
theorem At.open (A : At h b sl L p k g) (s : List UInt8) (hd : p.d + 1 ≤ 1000000000000) : At h b sl L (pOpen L s p) (k.set b ⟨pcs sl (pOpen L s p), PT⟩) g := A.move (A.pw.adv (adv_open A.pw.lw s p) (by have := A.pw.d0; omega) hd)
theorem At.shut (A : At h b sl L p k g) (s : List UInt8) (hd : -1000000000000 ≤ p.d - 1) : At h b sl L (pShut L s p) (k.set b ⟨pcs sl (pShut L s p), PT⟩) g := A.move (A.pw.adv (adv_shut A.pw.lw s p) (by omega) (by have := A.pw.d1; omega))
theorem At.none_g (A : At h b sl L p k g) {c : Nat} (hc : k c = none) : g c = none := by
  cases hg : g c with
  | none => rfl
  | some x => rw [A.le c x hg] at hc; cases hc
theorem At.leaf (A : At h b sl L p k g) {v : Nat} (hv : k v = none) (kk l c n : Int) (x : List UInt8) : It (g.set v ⟨itc kk l c n x ⟨none, 0, 0⟩, IT⟩) v (.nd kk l c n x []) := it_node (A.none_g hv) (kids_nil _) trivial
theorem At.node (A : At h b sl L p k g) {kb v : Nat} {vs : List Nat} {ts : List Tr} (hkb : k kb = none) (hI : Its g vs ts) (hn : vs.length ≤ 100) (hv : (k.set kb ⟨vs.map ptrv, PI⟩) v = none) (kk l c n : Int) (x : List UInt8) :
    At h b sl L p ((k.set kb ⟨vs.map ptrv, PI⟩).set v ⟨itc kk l c n x ⟨some (kb, 0), vs.length, vs.length⟩, IT⟩) ((g.set kb ⟨vs.map ptrv, PI⟩).set v ⟨itc kk l c n x ⟨some (kb, 0), vs.length, vs.length⟩, IT⟩) ∧
    It ((g.set kb ⟨vs.map ptrv, PI⟩).set v ⟨itc kk l c n x ⟨some (kb, 0), vs.length, vs.length⟩, IT⟩) v (.nd kk l c n x ts) :=
  ⟨(A.new hkb _).new hv _, it_node ((A.new hkb _).none_g hv) (kids_mk g kb vs hn) (Its.le (A.gnew hkb _) _ _ hI)⟩
end
/-- A function that takes a tree. -/
def prod (f : List Tok → Nat → PS → Option (Tr × PS)) (n : Nat) (args : List Value) (h : Hp) (φ : Value → Hp → Prop) : Prop :=
  ∃ m, m ≤ n ∧ ∃ b sl L p t q, args = [ptrv b] ∧ PW h b sl L p ∧ f L m p = some (t, q) ∧ p.d + m ≤ 1000000000000 ∧ ∀ v k g, At h b sl L q k g → It g v t → φ (ptrv v) k
theorem kind_ok : ∀ n args h φ w, prod pKind n args h φ → Holds h w → Calls Tryz.prog 64 args.toArray w fun e w' => ∃ v k, e = .returned v ∧ φ v k ∧ Holds k w' ∧ Fr w.heap.size h k w w'
  | 0 => by
    rintro args h φ w ⟨m, hm, b, sl, L, p, t, q, rfl, W, hr, hd, hφ⟩ hH
    obtain rfl : m = 0 := by omega
    cases hr
  | n + 1 => by
    have ih := kind_ok n
    rintro args h φ w ⟨m, hm, b, sl, L, p, t, q, rfl, W, hr, hd, hφ⟩ hH
    cases m with
    | zero => cases hr
    | succ m =>
    refine by_fm Tryz.func64 gen_pkind ps_pkind [ctNow, ctBad, ctFail, ctMake1, ctTry, ctPPass, ctNamed, ctIs, ctOpen, ctShut, (⟨64, prod pKind n, ih⟩ : Ct Tryz.prog)] φ (noInv) (noMeas) ⟨[], [], [], [], [], [some (b, 0)], h, noM⟩ ⟨rfl, rfl, rfl, rfl, rfl, rfl⟩ ones_nil ?_ w hH rfl
    generalize hE : (⟨specOf _, _, _, _⟩ : Env) = E
    have s_ctNow : E.spec 18 = (ctNow).spec := by rw [← hE]; rfl
    have s_ctBad : E.spec 20 = (ctBad).spec := by rw [← hE]; rfl
    have s_ctFail : E.spec 19 = (ctFail).spec := by rw [← hE]; rfl
    have s_ctMake1 : E.spec 80 = (ctMake1).spec := by rw [← hE]; rfl
    have s_ctTry : E.spec 63 = (ctTry).spec := by rw [← hE]; rfl
    have s_ctPPass : E.spec 48 = (ctPPass).spec := by rw [← hE]; rfl
    have s_ctNamed : E.spec 58 = (ctNamed).spec := by rw [← hE]; rfl
    have s_ctIs : E.spec 35 = (ctIs).spec := by rw [← hE]; rfl
    have s_ctOpen : E.spec 60 = (ctOpen).spec := by rw [← hE]; rfl
    have s_ctShut : E.spec 62 = (ctShut).spec := by rw [← hE]; rfl
    have s_ctK : E.spec 64 = ((⟨64, prod pKind n, ih⟩ : Ct Tryz.prog)).spec := by rw [← hE]; rfl
    have ep : E.post = φ := by rw [← hE]
    clear hE
    unfold fm_pkind
    have A := At.start W
    have fin : ∀ {k : Int} {q' : PS} {kk : Hp} {g : Hp} (A' : At h b sl L q' kk g) (x : List UInt8), some (nd k (tk L p) 0 x [], q') = some (t, q) → ∀ v, kk v = none → φ (ptrv v) (kk.set v ⟨itc k (tk L p).l (tk L p).c 0 x ⟨none, 0, 0⟩, IT⟩) := by
      intro k q' kk g A' x he v hv
      cases he
      exact hφ v _ _ (A'.new hv _) (A'.leaf hv ..)
    rw [th_call, if_pos (by rfl), s_ctNow]
    refine ⟨b, sl, L, p, rfl, W, ?_⟩
    simp [go_sem, tokv, tkv]
    rw [then_step, th_call, if_pos (by rfl), s_ctBad]
    refine ⟨b, sl, L, p, rfl, W, ?_⟩
    rw [pKind] at hr
    cases c0 : p.bad with
    | true =>
      rw [if_pos c0] at hr
      have hf : pFail L 5 p = p := by unfold pFail; rw [if_pos c0]
      simp [go_sem]
      simp only [then_step]; simp [go_sem]
      rw [then_step, th_call, if_pos (by rfl), s_ctFail]
      refine ⟨b, sl, L, p, 5, rfl, W, ?_⟩
      simp [go_sem]
      rw [then_step, th_call, if_pos (by rfl), s_ctMake1]
      refine ⟨15, tk L p, ⟨none, 0, 0⟩, rfl, fun v hv => ?_⟩
      simp [go_sem, ptrv]
      refine ⟨some (v, 0), rfl, ?_⟩
      simp only [then_step]; simp [go_sem, ep]
      refine fin (A.fail 5) [] ?_ v hv
      rw [hf]; exact hr
    | false =>
    rw [c0, if_neg (by decide)] at hr
    simp [go_sem]
    simp only [then_step]; simp [go_sem]
    have word : ∀ (s : List UInt8) (k : Int), pIs L s p = true → some (nd k (tk L p) 0 [] [], pPass L p) = some (t, q) → ∀ v, (h.set b ⟨pcs sl (pPass L p), PT⟩) v = none → φ (ptrv v) ((h.set b ⟨pcs sl (pPass L p), PT⟩).set v ⟨itc k (tk L p).l (tk L p).c 0 [] ⟨none, 0, 0⟩, IT⟩) := by
      intro s k hs he v hv
      exact fin A.pass [] he v hv
    rw [then_step, th_call, if_pos (by rfl), s_ctTry]
    refine ⟨b, sl, L, p, wInt, rfl, W, ?_⟩
    cases c1 : pIs L wInt p with
    | true =>
      rw [if_pos c1] at hr
      rw [if_pos rfl]
      simp [go_sem]
      simp only [then_step]; simp [go_sem]
      rw [then_step, th_call, if_pos (by rfl), s_ctMake1]
      refine ⟨15, tk L p, ⟨none, 0, 0⟩, rfl, fun v hv => ?_⟩
      simp [go_sem, ptrv]
      refine ⟨some (v, 0), rfl, ?_⟩
      simp only [then_step]; simp [go_sem, ep]
      exact word _ _ c1 hr v hv
    | false =>
    rw [c1, if_neg (by decide)] at hr
    rw [if_neg (by decide)]
    simp [go_sem]
    simp only [then_step]; simp [go_sem]
    rw [then_step, th_call, if_pos (by rfl), s_ctTry]
    refine ⟨b, sl, L, p, wBool, rfl, W, ?_⟩
    cases c2 : pIs L wBool p with
    | true =>
      rw [if_pos c2] at hr
      rw [if_pos rfl]
      simp [go_sem]
      simp only [then_step]; simp [go_sem]
      rw [then_step, th_call, if_pos (by rfl), s_ctMake1]
      refine ⟨16, tk L p, ⟨none, 0, 0⟩, rfl, fun v hv => ?_⟩
      simp [go_sem, ptrv]
      refine ⟨some (v, 0), rfl, ?_⟩
      simp only [then_step]; simp [go_sem, ep]
      exact word _ _ c2 hr v hv
    | false =>
    rw [c2, if_neg (by decide)] at hr
    rw [if_neg (by decide)]
    simp [go_sem]
    simp only [then_step]; simp [go_sem]
    rw [then_step, th_call, if_pos (by rfl), s_ctTry]
    refine ⟨b, sl, L, p, wStr, rfl, W, ?_⟩
    cases c3 : pIs L wStr p with
    | true =>
      rw [if_pos c3] at hr
      rw [if_pos rfl]
      simp [go_sem]
      simp only [then_step]; simp [go_sem]
      rw [then_step, th_call, if_pos (by rfl), s_ctMake1]
      refine ⟨17, tk L p, ⟨none, 0, 0⟩, rfl, fun v hv => ?_⟩
      simp [go_sem, ptrv]
      refine ⟨some (v, 0), rfl, ?_⟩
      simp only [then_step]; simp [go_sem, ep]
      exact word _ _ c3 hr v hv
    | false =>
    rw [c3, if_neg (by decide)] at hr
    rw [if_neg (by decide)]
    simp [go_sem]
    simp only [then_step]; simp [go_sem]
    rw [then_step, th_call, if_pos (by rfl), s_ctTry]
    refine ⟨b, sl, L, p, wComp, rfl, W, ?_⟩
    cases c4 : pIs L wComp p with
    | true =>
      rw [if_pos c4] at hr
      rw [if_pos rfl]
      simp [go_sem]
      simp only [then_step]; simp [go_sem]
      rw [then_step, th_call, if_pos (by rfl), s_ctMake1]
      refine ⟨18, tk L p, ⟨none, 0, 0⟩, rfl, fun v hv => ?_⟩
      simp [go_sem, ptrv]
      refine ⟨some (v, 0), rfl, ?_⟩
      simp only [then_step]; simp [go_sem, ep]
      exact word _ _ c4 hr v hv
    | false =>
    rw [c4, if_neg (by decide)] at hr
    rw [if_neg (by decide)]
    simp [go_sem]
    simp only [then_step]; simp [go_sem]
    by_cases c5 : (tk L p).k = 2
    · rw [if_pos c5] at hr
      rw [then_step, th_ite, if_pos (by simpa [go_sem] using c5)]
      rw [then_step, th_call, if_pos (by rfl), s_ctPPass]
      refine ⟨b, sl, L, p, rfl, W, ?_⟩
      simp [go_sem, tokv, tkv]
      rw [then_step, th_call, if_pos (by rfl), s_ctNamed]
      refine ⟨19, tk L p, (tk L p).x, ⟨none, 0, 0⟩, rfl, fun v hv => ?_⟩
      simp [go_sem, ptrv]
      refine ⟨some (v, 0), rfl, ?_⟩
      simp only [then_step]; simp [go_sem, ep]
      exact fin A.pass _ hr v hv
    rw [if_neg c5] at hr
    rw [then_step, th_ite, if_neg (by simpa [go_sem] using c5)]
    rw [then_step, th_call, if_pos (by rfl), s_ctIs]
    refine ⟨b, sl, L, p, [91], rfl, W, ?_⟩
    cases c6 : pIs L [91] p with
    | true =>
      rw [if_pos c6] at hr
      simp only [Option.map_eq_some_iff] at hr
      obtain ⟨⟨x, r⟩, h1, h2⟩ := hr
      cases h2
      simp [go_sem]
      simp only [then_step]; simp [go_sem]
      rw [then_step, th_call, if_pos (by rfl), s_ctOpen]
      refine ⟨b, sl, L, p, [91], rfl, W, ?_⟩
      simp [go_sem, tokv, tkv]
      have Ao := adv_open W.lw [91] p
      have hod := Ao.d
      have A1 := A.open [91] (by omega)
      rw [then_step, th_call, if_pos (by rfl), s_ctK]
      refine ⟨m, by omega, b, sl, L, pOpen L [91] p, x, r, rfl, A1.pw, h1, by omega, fun v k g A2 hI => ?_⟩
      simp [go_sem, ptrv]
      refine ⟨some (v, 0), rfl, ?_⟩
      have A3 := A1.then A2
      have hkd := (adv_kind W.lw m _ h1).d
      have hd0 := W.d0
      rw [then_step, th_call, if_pos (by rfl), s_ctShut]
      refine ⟨b, sl, L, r, [93], rfl, A3.pw, ?_⟩
      have A4 := A3.shut [93] (by omega)
      simp [go_sem]
      rw [then_step, th_mk]
      intro kb hkb
      simp [go_sem]
      rw [then_step, th_call, if_pos (by rfl), s_ctMake1]
      refine ⟨20, tk L p, ⟨some (kb, 0), 1, 1⟩, rfl, fun v' hv' => ?_⟩
      simp [go_sem, ptrv]
      refine ⟨some (v', 0), rfl, ?_⟩
      simp only [then_step]; simp [go_sem, ep]
      obtain ⟨A5, I5⟩ := A4.node (vs := [v]) (ts := [x]) hkb ⟨It.le (A1.disj A2) _ _ hI, trivial⟩ (by simp) hv' 20 (tk L p).l (tk L p).c 0 []
      exact hφ v' _ _ A5 I5
    | false =>
      rw [c6, if_neg (by decide)] at hr
      simp [go_sem]
      simp only [then_step]; simp [go_sem]
      rw [then_step, th_call, if_pos (by rfl), s_ctFail]
      refine ⟨b, sl, L, p, 5, rfl, W, ?_⟩
      simp [go_sem]
      rw [then_step, th_call, if_pos (by rfl), s_ctMake1]
      refine ⟨15, tk L p, ⟨none, 0, 0⟩, rfl, fun v hv => ?_⟩
      simp [go_sem, ptrv]
      refine ⟨some (v, 0), rfl, ?_⟩
      simp only [then_step]; simp [go_sem, ep]
      exact fin (A.fail 5) [] hr v hv
end Go.Proofs.YthlakehilhpojaaGreatDoor
namespace Go.Proofs.YthlakehilhpojaaGreatDoor
open Go.RowKit
attribute [local go_sem] says_tt says_ff th_need th_ite th_call th_callK th_load th_store th_mk th_new th_mks th_str says_ret says_again says_app BE.den IE.den SE.den LE.den AE.den CE.den PE.den VE.den KV.val Got.den Got.cnt exI allI exL allL Ctx.push Ctx.heap Ctx.cut Ctx.bare Ctx.mark Inc.blank List.getD_cons_zero List.getD_cons_succ List.cons_append List.nil_append List.append_nil List.map_cons List.map_nil List.replicate_zero List.replicate_succ specOf ltB_t leB_t ltB_f leB_f slc_val slc_nil slc_inj pt_val pt_nil hle_noHeap hle_refl hread_set hwrite_set set_same set_set noHeap_at B_inj ones_nil and_assoc
def fm_pop : Fm := (.call (.c true) false 18 [(.one (.pt 0))] (.p (.agg [(.i .u8 (.x 1)), (.i .i64 (.x 2)), (.i .i64 (.x 3)), (.i .i64 (.x 4)), (.s (.x 0))])) ⟨4, 0, 1, 0, 0, 0⟩
  (.call (.c true) false 20 [(.one (.pt 0))] (.p (.one (.b (.x 0)))) ⟨0, 1, 0, 0, 0, 0⟩
  (.ite (.or (.x 0) (.not (.eqI (.x 1) (.c 7))))
  (.ret (.p (.one (.i .i64 (.c 0)))))
  (.ite (.eqS (.x 0) (.c [124, 124]))
  (.ite (.not (.eqI (.c 1) (.x 0)))
  (.ret (.p (.one (.i .i64 (.c 0)))))
  (.ret (.p (.one (.i .i64 (.c 15))))))
  (.ite (.eqS (.x 0) (.c [38, 38]))
  (.ite (.not (.eqI (.c 2) (.x 0)))
  (.ret (.p (.one (.i .i64 (.c 0)))))
  (.ret (.p (.one (.i .i64 (.c 14))))))
  (.ite (.eqS (.x 0) (.c [61, 61]))
  (.ite (.not (.eqI (.c 3) (.x 0)))
  (.ret (.p (.one (.i .i64 (.c 0)))))
  (.ret (.p (.one (.i .i64 (.c 6))))))
  (.ite (.eqS (.x 0) (.c [33, 61]))
  (.ite (.not (.eqI (.c 3) (.x 0)))
  (.ret (.p (.one (.i .i64 (.c 0)))))
  (.ret (.p (.one (.i .i64 (.c 7))))))
  (.ite (.eqS (.x 0) (.c [60]))
  (.ite (.not (.eqI (.c 4) (.x 0)))
  (.ret (.p (.one (.i .i64 (.c 0)))))
  (.ret (.p (.one (.i .i64 (.c 8))))))
  (.ite (.eqS (.x 0) (.c [60, 61]))
  (.ite (.not (.eqI (.c 4) (.x 0)))
  (.ret (.p (.one (.i .i64 (.c 0)))))
  (.ret (.p (.one (.i .i64 (.c 9))))))
  (.ite (.eqS (.x 0) (.c [62]))
  (.ite (.not (.eqI (.c 4) (.x 0)))
  (.ret (.p (.one (.i .i64 (.c 0)))))
  (.ret (.p (.one (.i .i64 (.c 10))))))
  (.ite (.eqS (.x 0) (.c [62, 61]))
  (.ite (.not (.eqI (.c 4) (.x 0)))
  (.ret (.p (.one (.i .i64 (.c 0)))))
  (.ret (.p (.one (.i .i64 (.c 11))))))
  (.ite (.eqS (.x 0) (.c [43]))
  (.ite (.not (.eqI (.c 5) (.x 0)))
  (.ret (.p (.one (.i .i64 (.c 0)))))
  (.ret (.p (.one (.i .i64 (.c 1))))))
  (.ite (.eqS (.x 0) (.c [45]))
  (.ite (.not (.eqI (.c 5) (.x 0)))
  (.ret (.p (.one (.i .i64 (.c 0)))))
  (.ret (.p (.one (.i .i64 (.c 2))))))
  (.ite (.eqS (.x 0) (.c [42]))
  (.ite (.not (.eqI (.c 6) (.x 0)))
  (.ret (.p (.one (.i .i64 (.c 0)))))
  (.ret (.p (.one (.i .i64 (.c 3))))))
  (.ite (.eqS (.x 0) (.c [47]))
  (.ite (.not (.eqI (.c 6) (.x 0)))
  (.ret (.p (.one (.i .i64 (.c 0)))))
  (.ret (.p (.one (.i .i64 (.c 4))))))
  (.ite (.eqS (.x 0) (.c [37]))
  (.ite (.not (.eqI (.c 6) (.x 0)))
  (.ret (.p (.one (.i .i64 (.c 0)))))
  (.ret (.p (.one (.i .i64 (.c 5))))))
  (.ite (.not (.eqI (.c 0) (.x 0)))
  (.ret (.p (.one (.i .i64 (.c 0)))))
  (.ret (.p (.one (.i .i64 (.c 0))))))))))))))))))))))
theorem gen_pop : genFn ⟨true, []⟩ Tryz.prog (fun l => ([] : List LAnn).getD l ⟨[], [], []⟩) Tryz.f47 = fm_pop := by kernel_rfl
theorem ps_pop : freshPs Tryz.prog .zero Tryz.f47.params.toList = some ([(.one (.pt 0)), (.one (.i .i64 (.x 0)))], ⟨1, 0, 0, 0, 0, 1⟩) := by kernel_rfl
def fm_pexpr : Fm := (.call (.c true) false 22 [(.one (.pt 0)), (.one (.i .i64 (.c 1)))] (.p (.one (.pt 1))) ⟨0, 0, 0, 0, 0, 1⟩
  (.ret (.p (.one (.pt 1)))))
theorem gen_pexpr : genFn ⟨true, []⟩ Tryz.prog (fun l => ([] : List LAnn).getD l ⟨[], [], []⟩) Tryz.f11 = fm_pexpr := by kernel_rfl
theorem ps_pexpr : freshPs Tryz.prog .zero Tryz.f11.params.toList = some ([(.one (.pt 0))], ⟨0, 0, 0, 0, 0, 1⟩) := by kernel_rfl
def fm_pbin : Fm := (.ite (.lt (.c 6) (.x 0))
  (.call (.c true) false 46 [(.one (.pt 0))] (.p (.one (.pt 1))) ⟨0, 0, 0, 0, 0, 1⟩
  (.ret (.p (.one (.pt 1)))))
  (.need (.c true) (.and (.le (.c (-9223372036854775808)) (.add (.x 0) (.c 1))) (.le (.add (.x 0) (.c 1)) (.c 9223372036854775807)))
  (.call (.c true) false 22 [(.one (.pt 0)), (.one (.i .i64 (.add (.x 0) (.c 1))))] (.p (.one (.pt 1))) ⟨0, 0, 0, 0, 0, 1⟩
  (.loop 0 ⟨[], [], [], [], [], [(.c .nilp), (.pt 1)]⟩
  (.call (.c true) false 47 [(.one (.pt 0)), (.one (.i .i64 (.x 0)))] (.p (.one (.i .i64 (.x 1)))) ⟨1, 0, 0, 0, 0, 0⟩
  (.ite (.eqI (.x 1) (.c 0))
  (.ret (.p (.one (.pt 3))))
  (.call (.c true) false 48 [(.one (.pt 0))] (.p (.agg [(.i .u8 (.x 2)), (.i .i64 (.x 3)), (.i .i64 (.x 4)), (.i .i64 (.x 5)), (.s (.x 0))])) ⟨4, 0, 1, 0, 0, 0⟩
  (.need (.c true) (.and (.le (.c (-9223372036854775808)) (.add (.x 0) (.c 1))) (.le (.add (.x 0) (.c 1)) (.c 9223372036854775807)))
  (.call (.c true) false 22 [(.one (.pt 0)), (.one (.i .i64 (.add (.x 0) (.c 1))))] (.p (.one (.pt 4))) ⟨0, 0, 0, 0, 0, 1⟩
  (.mk [(.pt 3), (.pt 4)] 49 2
  (.call (.c true) false 49 [(.one (.i .u8 (.c 31))), (.agg [(.i .u8 (.x 2)), (.i .i64 (.x 3)), (.i .i64 (.x 4)), (.i .i64 (.x 5)), (.s (.x 0))]), (.one (.i .i64 (.x 1))), (.one (.sl (.x 0)))] (.p (.one (.pt 5))) ⟨0, 0, 0, 0, 0, 1⟩
  (.ite (.or (.eqI (.x 0) (.c 3)) (.eqI (.x 0) (.c 4)))
  (.ret (.p (.one (.pt 5))))
  (.again 0 ⟨1, 0, 0, 0, 0, 2⟩ ⟨1, 0, 0, 0, 0, 4⟩ ⟨[], [], [], [], [], [(.pt 2), (.pt 5)]⟩)))))))))))))
theorem gen_pbin : genFn ⟨true, []⟩ Tryz.prog (fun l => ([⟨[4, 5], [16, 17, 18, 6, 19, 20, 21, 22, 23, 7, 24, 25, 26, 27, 28, 29, 30, 31, 32, 33, 34, 35, 36, 37, 38, 39], [7]⟩] : List LAnn).getD l ⟨[], [], []⟩) Tryz.f22 = fm_pbin := by kernel_rfl
theorem ps_pbin : freshPs Tryz.prog .zero Tryz.f22.params.toList = some ([(.one (.pt 0)), (.one (.i .i64 (.x 0)))], ⟨1, 0, 0, 0, 0, 1⟩) := by kernel_rfl
def fm_pun : Fm := (.call (.c true) false 35 [(.one (.pt 0)), (.one (.s (.c [45])))] (.p (.one (.b (.x 0)))) ⟨0, 1, 0, 0, 0, 0⟩
  (.ite (.x 0)
  (.call (.c true) false 18 [(.one (.pt 0))] (.p (.agg [(.i .u8 (.x 0)), (.i .i64 (.x 1)), (.i .i64 (.x 2)), (.i .i64 (.x 3)), (.s (.x 0))])) ⟨4, 0, 1, 0, 0, 0⟩
  (.call (.c true) false 60 [(.one (.pt 0)), (.one (.s (.x 0)))] (.p (.agg [(.i .u8 (.x 4)), (.i .i64 (.x 5)), (.i .i64 (.x 6)), (.i .i64 (.x 7)), (.s (.x 1))])) ⟨4, 0, 1, 0, 0, 0⟩
  (.call (.c true) false 46 [(.one (.pt 0))] (.p (.one (.pt 1))) ⟨0, 0, 0, 0, 0, 1⟩
  (.mk [(.pt 1)] 49 1
  (.call (.c true) false 49 [(.one (.i .u8 (.c 30))), (.agg [(.i .u8 (.x 4)), (.i .i64 (.x 5)), (.i .i64 (.x 6)), (.i .i64 (.x 7)), (.s (.x 1))]), (.one (.i .i64 (.c 12))), (.one (.sl (.x 0)))] (.p (.one (.pt 2))) ⟨0, 0, 0, 0, 0, 1⟩
  (.need (.c true) (.nnp 0)
  (.need (.c true) (.nnp 0)
  (.load (.c true) (.pt 0 2) 1 [(.i .i64 (.x 8))] ⟨1, 0, 0, 0, 0, 0⟩
  (.need (.c true) (.and (.le (.c (-9223372036854775808)) (.sub (.x 8) (.c 1))) (.le (.sub (.x 8) (.c 1)) (.c 9223372036854775807)))
  (.need (.c true) (.nnp 0)
  (.need (.c true) (.nnp 0)
  (.store (.pt 0 2) [(.i .i64 (.sub (.x 8) (.c 1)))]
  (.ret (.p (.one (.pt 2))))))))))))))))
  (.call (.c true) false 35 [(.one (.pt 0)), (.one (.s (.c [33])))] (.p (.one (.b (.x 1)))) ⟨0, 1, 0, 0, 0, 0⟩
  (.ite (.x 1)
  (.call (.c true) false 18 [(.one (.pt 0))] (.p (.agg [(.i .u8 (.x 0)), (.i .i64 (.x 1)), (.i .i64 (.x 2)), (.i .i64 (.x 3)), (.s (.x 0))])) ⟨4, 0, 1, 0, 0, 0⟩
  (.call (.c true) false 60 [(.one (.pt 0)), (.one (.s (.x 0)))] (.p (.agg [(.i .u8 (.x 4)), (.i .i64 (.x 5)), (.i .i64 (.x 6)), (.i .i64 (.x 7)), (.s (.x 1))])) ⟨4, 0, 1, 0, 0, 0⟩
  (.call (.c true) false 46 [(.one (.pt 0))] (.p (.one (.pt 1))) ⟨0, 0, 0, 0, 0, 1⟩
  (.mk [(.pt 1)] 49 1
  (.call (.c true) false 49 [(.one (.i .u8 (.c 30))), (.agg [(.i .u8 (.x 4)), (.i .i64 (.x 5)), (.i .i64 (.x 6)), (.i .i64 (.x 7)), (.s (.x 1))]), (.one (.i .i64 (.c 13))), (.one (.sl (.x 0)))] (.p (.one (.pt 2))) ⟨0, 0, 0, 0, 0, 1⟩
  (.need (.c true) (.nnp 0)
  (.need (.c true) (.nnp 0)
  (.load (.c true) (.pt 0 2) 1 [(.i .i64 (.x 8))] ⟨1, 0, 0, 0, 0, 0⟩
  (.need (.c true) (.and (.le (.c (-9223372036854775808)) (.sub (.x 8) (.c 1))) (.le (.sub (.x 8) (.c 1)) (.c 9223372036854775807)))
  (.need (.c true) (.nnp 0)
  (.need (.c true) (.nnp 0)
  (.store (.pt 0 2) [(.i .i64 (.sub (.x 8) (.c 1)))]
  (.ret (.p (.one (.pt 2))))))))))))))))
  (.call (.c true) false 79 [(.one (.pt 0))] (.p (.one (.pt 1))) ⟨0, 0, 0, 0, 0, 1⟩
  (.ret (.p (.one (.pt 1)))))))))
theorem gen_pun : genFn ⟨true, []⟩ Tryz.prog (fun l => ([] : List LAnn).getD l ⟨[], [], []⟩) Tryz.f46 = fm_pun := by kernel_rfl
theorem ps_pun : freshPs Tryz.prog .zero Tryz.f46.params.toList = some ([(.one (.pt 0))], ⟨0, 0, 0, 0, 0, 1⟩) := by kernel_rfl
/-- How much there is to do, in memory. -/
def measP (b N : Nat) (C : Ctx) : Nat :=
  match C.h b with
  | some o => match o.cs with
    | [_, .int _ a, _, .int _ e, _, _] => if e = 0 then ((N : Int) - a).toNat else 0
    | _ => 0
  | none => 0
theorem measP_eq {k : Hp} {b : Nat} {sl : Slc} {L : List Tok} {p : PS} (W : PW k b sl L p) {C : Ctx} (hC : C.h = k) : measP b L.length C = mu L p := by
  unfold measP
  rw [hC, W.blk]
  simp only [pcs]
  unfold mu PS.bad
  by_cases e : p.f.1 = 0
  · simp [e]
  · simp [e]
set_option maxHeartbeats 4000000 in
def ctOp : Ct Tryz.prog where
  f := 47
  spec := fun args h φ => ∃ b sl L p, ∃ lvl : Nat, args = [ptrv b, .int .i64 lvl] ∧ PW h b sl L p ∧ φ (.int .i64 (pOp L lvl p)) h
  ok := by
    rintro args h φ w ⟨b, sl, L, p, lvl, rfl, W, hφ⟩ hH
    refine by_fm Tryz.func47 gen_pop ps_pop [ctNow, ctBad] φ (noInv) (noMeas) ⟨[(lvl : Nat)], [], [], [], [], [some (b, 0)], h, noM⟩ ⟨rfl, rfl, rfl, rfl, rfl, rfl⟩ ones_nil ?_ w hH rfl
    generalize hE : (⟨specOf _, _, _, _⟩ : Env) = E
    have s_ctNow : E.spec 18 = (ctNow).spec := by rw [← hE]; rfl
    have s_ctBad : E.spec 20 = (ctBad).spec := by rw [← hE]; rfl
    have ep : E.post = φ := by rw [← hE]
    clear hE
    unfold fm_pop
    rw [th_call, if_pos (by rfl), s_ctNow]
    refine ⟨b, sl, L, p, rfl, W, ?_⟩
    simp [go_sem, tokv, tkv]
    rw [then_step, th_call, if_pos (by rfl), s_ctBad]
    refine ⟨b, sl, L, p, rfl, W, ?_⟩
    unfold pOp at hφ
    by_cases hc : (p.bad || !((tk L p).k == 7)) = true
    · rw [if_pos hc] at hφ
      simp [go_sem]
      rw [then_step, th_ite, if_pos (by simpa [go_sem] using hc)]
      simp only [then_step]; simp [go_sem, ep]
      exact hφ
    rw [if_neg hc] at hφ
    simp [go_sem]
    rw [then_step, th_ite, if_neg (by simpa [go_sem] using hc)]
    clear hc
    generalize (tk L p).x = x at hφ ⊢
    have fin : ∀ (of v : Nat), φ (.int .i64 (if of = lvl then (v : Int) else 0)) h → Then E (.ite (.not (.eqI (.c of) (.x 0))) (.ret (.p (.one (.i .i64 (.c 0))))) (.ret (.p (.one (.i .i64 (.c v)))))) ⟨[(lvl : Nat), (tk L p).k, (tk L p).l, (tk L p).c, (tk L p).n], [p.bad], [x], [], [], [some (b, 0)], h, noM⟩ := by
      intro of v hv
      by_cases e : of = lvl
      · rw [if_pos e] at hv
        rw [then_step, th_ite, if_neg (by simp [go_sem, e])]
        simp only [then_step]; simp [go_sem, ep]
        exact hv
      · rw [if_neg e] at hv
        rw [then_step, th_ite, if_pos (by simp [go_sem]; omega)]
        simp only [then_step]; simp [go_sem, ep]
        exact hv
    have next : ∀ (s : List UInt8) (l : List Nat) (of v : Nat) (K : Fm) (T : Int × Nat), (l.map UInt8.ofNat = s) → φ (.int .i64 (if (if x = s then ((v : Int), of) else T).2 = lvl then (if x = s then ((v : Int), of) else T).1 else 0)) h →
        (φ (.int .i64 (if T.2 = lvl then T.1 else 0)) h → Then E K ⟨[(lvl : Nat), (tk L p).k, (tk L p).l, (tk L p).c, (tk L p).n], [p.bad], [x], [], [], [some (b, 0)], h, noM⟩) →
        Then E (.ite (.eqS (.x 0) (.c l)) (.ite (.not (.eqI (.c of) (.x 0))) (.ret (.p (.one (.i .i64 (.c 0))))) (.ret (.p (.one (.i .i64 (.c v)))))) K) ⟨[(lvl : Nat), (tk L p).k, (tk L p).l, (tk L p).c, (tk L p).n], [p.bad], [x], [], [], [some (b, 0)], h, noM⟩ := by
      intro s l of v K T hl hv hK
      by_cases e : x = s
      · simp only [if_pos e] at hv
        rw [then_step, th_ite, if_pos (by simp [go_sem]; rw [e, ← hl])]
        exact fin of v hv
      · simp only [if_neg e] at hv
        rw [then_step, th_ite, if_neg (by simp [go_sem]; rw [hl]; exact e)]
        exact hK hv
    unfold opTab at hφ
    refine next [124, 124] [124, 124] 1 15 _ _ rfl hφ fun hφ => ?_
    refine next [38, 38] [38, 38] 2 14 _ _ rfl hφ fun hφ => ?_
    refine next [61, 61] [61, 61] 3 6 _ _ rfl hφ fun hφ => ?_
    refine next [33, 61] [33, 61] 3 7 _ _ rfl hφ fun hφ => ?_
    refine next [60] [60] 4 8 _ _ rfl hφ fun hφ => ?_
    refine next [60, 61] [60, 61] 4 9 _ _ rfl hφ fun hφ => ?_
    refine next [62] [62] 4 10 _ _ rfl hφ fun hφ => ?_
    refine next [62, 61] [62, 61] 4 11 _ _ rfl hφ fun hφ => ?_
    refine next [43] [43] 5 1 _ _ rfl hφ fun hφ => ?_
    refine next [45] [45] 5 2 _ _ rfl hφ fun hφ => ?_
    refine next [42] [42] 6 3 _ _ rfl hφ fun hφ => ?_
    refine next [47] [47] 6 4 _ _ rfl hφ fun hφ => ?_
    refine next [37] [37] 6 5 _ _ rfl hφ fun hφ => ?_
    exact fin 0 0 hφ
end Go.Proofs.YthlakehilhpojaaGreatDoor
namespace Go.Proofs.YthlakehilhpojaaGreatDoor
open Go.RowKit
attribute [local go_sem] says_tt says_ff th_need th_ite th_call th_callK th_load th_store th_mk th_new th_mks th_str says_ret says_again says_app BE.den IE.den SE.den LE.den AE.den CE.den PE.den VE.den KV.val Got.den Got.cnt exI allI exL allL Ctx.push Ctx.heap Ctx.cut Ctx.bare Ctx.mark Inc.blank List.getD_cons_zero List.getD_cons_succ List.cons_append List.nil_append List.append_nil List.map_cons List.map_nil List.replicate_zero List.replicate_succ specOf ltB_t leB_t ltB_f leB_f slc_val slc_nil slc_inj pt_val pt_nil hle_noHeap hle_refl hread_set hwrite_set set_same set_set noHeap_at B_inj ones_nil and_assoc
def prodB (n : Nat) (args : List Value) (h : Hp) (φ : Value → Hp → Prop) : Prop :=
  ∃ m, m ≤ n ∧ ∃ b sl L p t q, ∃ lvl : Nat, args = [ptrv b, .int .i64 lvl] ∧ lvl ≤ 7 ∧ PW h b sl L p ∧ pBin L m lvl p = some (t, q) ∧ p.d + m ≤ 1000000000000 ∧ ∀ v k g, At h b sl L q k g → It g v t → φ (ptrv v) k
def BinOk (n : Nat) : Prop := ∀ args h φ w, prodB n args h φ → Holds h w → Calls Tryz.prog 22 args.toArray w fun e w' => ∃ v k, e = .returned v ∧ φ v k ∧ Holds k w' ∧ Fr w.heap.size h k w w'
def UnOk (n : Nat) : Prop := ∀ args h φ w, prod pUn n args h φ → Holds h w → Calls Tryz.prog 46 args.toArray w fun e w' => ∃ v k, e = .returned v ∧ φ v k ∧ Holds k w' ∧ Fr w.heap.size h k w w'
def runPost (L : List Tok) (n : Nat) (p : PS) : Option (Tr × PS) := (pAtom L n p).bind fun r => pPost L n r.1 r.2
def PostOk (n : Nat) : Prop := ∀ args h φ w, prod runPost n args h φ → Holds h w → Calls Tryz.prog 79 args.toArray w fun e w' => ∃ v k, e = .returned v ∧ φ v k ∧ Holds k w' ∧ Fr w.heap.size h k w w'
def runExpr (L : List Tok) (n : Nat) (p : PS) : Option (Tr × PS) := pBin L n 1 p
def ExprOk (n : Nat) : Prop := ∀ args h φ w, prod runExpr n args h φ → Holds h w → Calls Tryz.prog 11 args.toArray w fun e w' => ∃ v k, e = .returned v ∧ φ v k ∧ Holds k w' ∧ Fr w.heap.size h k w w'
def AtomOk (n : Nat) : Prop := ∀ args h φ w, prod pAtom n args h φ → Holds h w → Calls Tryz.prog 93 args.toArray w fun e w' => ∃ v k, e = .returned v ∧ φ v k ∧ Holds k w' ∧ Fr w.heap.size h k w w'
def ctBin {n : Nat} (H : BinOk n) : Ct Tryz.prog := ⟨22, prodB n, H⟩
def ctUn {n : Nat} (H : UnOk n) : Ct Tryz.prog := ⟨46, prod pUn n, H⟩
def ctPost {n : Nat} (H : PostOk n) : Ct Tryz.prog := ⟨79, prod runPost n, H⟩
def ctExpr {n : Nat} (H : ExprOk n) : Ct Tryz.prog := ⟨11, prod runExpr n, H⟩
def ctAtom {n : Nat} (H : AtomOk n) : Ct Tryz.prog := ⟨93, prod pAtom n, H⟩
theorem expr_ok {n : Nat} (H : BinOk n) : ExprOk n := by
  rintro args h φ w ⟨m, hm, b, sl, L, p, t, q, rfl, W, hr, hd, hφ⟩ hH
  refine by_fm Tryz.func11 gen_pexpr ps_pexpr [ctBin H] φ (noInv) (noMeas) ⟨[], [], [], [], [], [some (b, 0)], h, noM⟩ ⟨rfl, rfl, rfl, rfl, rfl, rfl⟩ ones_nil ?_ w hH rfl
  generalize hE : (⟨specOf _, _, _, _⟩ : Env) = E
  have s_ctB : E.spec 22 = (ctBin H).spec := by rw [← hE]; rfl
  have ep : E.post = φ := by rw [← hE]
  clear hE
  unfold fm_pexpr
  rw [th_call, if_pos (by rfl), s_ctB]
  refine ⟨m, hm, b, sl, L, p, t, q, 1, rfl, by omega, W, hr, hd, fun v k g A hI => ?_⟩
  simp [go_sem, ptrv]; refine ⟨some (v, 0), rfl, ?_⟩
  simp only [then_step]; simp [go_sem, ep]
  exact hφ v k g A hI
set_option maxHeartbeats 4000000 in
theorem un_ok {n : Nat} (HU : UnOk n) (HP : PostOk n) : UnOk (n + 1) := by
  rintro args h φ w ⟨m, hm, b, sl, L, p, t, q, rfl, W, hr, hd, hφ⟩ hH
  cases m with
  | zero => cases hr
  | succ m =>
  refine by_fm Tryz.func46 gen_pun ps_pun [ctIs, ctNow, ctOpen, ctNumbered, ctUn HU, ctPost HP] φ (noInv) (noMeas) ⟨[], [], [], [], [], [some (b, 0)], h, noM⟩ ⟨rfl, rfl, rfl, rfl, rfl, rfl⟩ ones_nil ?_ w hH rfl
  generalize hE : (⟨specOf _, _, _, _⟩ : Env) = E
  have s_ctIs : E.spec 35 = (ctIs).spec := by rw [← hE]; rfl
  have s_ctNow : E.spec 18 = (ctNow).spec := by rw [← hE]; rfl
  have s_ctOpen : E.spec 60 = (ctOpen).spec := by rw [← hE]; rfl
  have s_ctNumbered : E.spec 49 = (ctNumbered).spec := by rw [← hE]; rfl
  have s_ctU : E.spec 46 = (ctUn HU).spec := by rw [← hE]; rfl
  have s_ctP : E.spec 79 = (ctPost HP).spec := by rw [← hE]; rfl
  have ep : E.post = φ := by rw [← hE]
  clear hE
  unfold fm_pun
  have A := At.start W
  have hd0 := W.d0
  rw [pUn] at hr
  have sgn : ∀ (s : List UInt8) (n' : Int) (bs : List Bool), pIs L s p = true → (pUn L m (pOpen L (tk L p).x p)).map (fun r => (nd 30 (tk L p) n' [] [r.1], { r.2 with d := r.2.d - 1 })) = some (t, q) →
      ∀ (cc : Nat), ((cc : Nat) : Int) = n' → ∀ C : Ctx, C = ⟨[], bs, [], [], [], [some (b, 0)], h, noM⟩ → Then E (Fm.call (.c true) false 18 [(.one (.pt 0))] (.p (.agg [(.i .u8 (.x 0)), (.i .i64 (.x 1)), (.i .i64 (.x 2)), (.i .i64 (.x 3)), (.s (.x 0))])) ⟨4, 0, 1, 0, 0, 0⟩
  (.call (.c true) false 60 [(.one (.pt 0)), (.one (.s (.x 0)))] (.p (.agg [(.i .u8 (.x 4)), (.i .i64 (.x 5)), (.i .i64 (.x 6)), (.i .i64 (.x 7)), (.s (.x 1))])) ⟨4, 0, 1, 0, 0, 0⟩
  (.call (.c true) false 46 [(.one (.pt 0))] (.p (.one (.pt 1))) ⟨0, 0, 0, 0, 0, 1⟩
  (.mk [(.pt 1)] PI 1
  (.call (.c true) false 49 [(.one (.i .u8 (.c 30))), (.agg [(.i .u8 (.x 4)), (.i .i64 (.x 5)), (.i .i64 (.x 6)), (.i .i64 (.x 7)), (.s (.x 1))]), (.one (.i .i64 (.c cc))), (.one (.sl (.x 0)))] (.p (.one (.pt 2))) ⟨0, 0, 0, 0, 0, 1⟩
  (.need (.c true) (.nnp 0)
  (.need (.c true) (.nnp 0)
  (.load (.c true) (.pt 0 2) 1 [(.i .i64 (.x 8))] ⟨1, 0, 0, 0, 0, 0⟩
  (.need (.c true) (.and (.le (.c (-9223372036854775808)) (.sub (.x 8) (.c 1))) (.le (.sub (.x 8) (.c 1)) (.c 9223372036854775807)))
  (.need (.c true) (.nnp 0)
  (.need (.c true) (.nnp 0)
  (.store (.pt 0 2) [(.i .i64 (.sub (.x 8) (.c 1)))]
  (.ret (.p (.one (.pt 2)))))))))))))))) C := by
    intro s n' bs hs hr cc hcc C hC
    subst hC
    simp only [Option.map_eq_some_iff] at hr
    obtain ⟨⟨x, r⟩, h1, h2⟩ := hr
    cases h2
    rw [then_step, th_call, if_pos (by rfl), s_ctNow]
    refine ⟨b, sl, L, p, rfl, W, ?_⟩
    simp [go_sem, tokv, tkv]
    rw [then_step, th_call, if_pos (by rfl), s_ctOpen]
    refine ⟨b, sl, L, p, (tk L p).x, rfl, W, ?_⟩
    simp [go_sem, tokv, tkv]
    have hod := (adv_open W.lw (tk L p).x p).d
    have A1 := A.open (tk L p).x (by omega)
    rw [then_step, th_call, if_pos (by rfl), s_ctU]
    refine ⟨m, by omega, b, sl, L, _, x, r, rfl, A1.pw, h1, by omega, fun v k g A2 hI => ?_⟩
    simp [go_sem, ptrv]; refine ⟨some (v, 0), rfl, ?_⟩
    have A3 := A1.then A2
    have hkd := ((advE W.lw m).2.2.1 _ _ _ h1).d
    rw [then_step, th_mk]
    intro kb hkb
    simp [go_sem]
    rw [then_step, th_call, if_pos (by rfl), s_ctNumbered]
    refine ⟨30, tk L p, n', ⟨some (kb, 0), 1, 1⟩, by rw [← hcc]; rfl, fun v' hv' => ?_⟩
    simp [go_sem, ptrv]; refine ⟨some (v', 0), rfl, ?_⟩
    obtain ⟨A5, I5⟩ := A3.node (vs := [v]) (ts := [x]) hkb ⟨It.le (A1.disj A2) _ _ hI, trivial⟩ (by simp) hv' 30 (tk L p).l (tk L p).c n' []
    have h50 := A5.pw.d0
    have h51 := A5.pw.d1
    have hb5' : ((Hp.set k kb ⟨[Value.pointer (some ⟨v, 0, none⟩)], PI⟩).set v' ⟨itc 30 (tk L p).l (tk L p).c n' [] ⟨some (kb, 0), 1, 1⟩, IT⟩) b = some ⟨pcs sl r, PT⟩ := A5.pw.blk
    iterate 12 (try simp only [then_step]; try simp [go_sem, ep, hread_of hb5', hwrite_of hb5', pcs])
    refine ⟨by omega, by omega, ?_⟩
    exact hφ v' _ _ (A5.move (A5.pw.set (q := { r with d := r.d - 1 }) A5.pw.at' (by simp only; omega) (by simp only; omega))) I5
  rw [th_call, if_pos (by rfl), s_ctIs]
  refine ⟨b, sl, L, p, [45], rfl, W, ?_⟩
  cases c1 : pIs L [45] p with
  | true =>
    rw [if_pos c1] at hr
    simp [go_sem]
    rw [then_step, th_ite, if_pos (by simp [go_sem])]
    exact sgn _ 12 _ c1 hr 12 rfl _ rfl
  | false =>
  rw [c1, if_neg (by decide)] at hr
  simp [go_sem]
  rw [then_step, th_ite, if_neg (by simp [go_sem])]
  rw [then_step, th_call, if_pos (by rfl), s_ctIs]
  refine ⟨b, sl, L, p, [33], rfl, W, ?_⟩
  cases c2 : pIs L [33] p with
  | true =>
    rw [if_pos c2] at hr
    simp [go_sem]
    rw [then_step, th_ite, if_pos (by simp [go_sem])]
    exact sgn _ 13 _ c2 hr 13 rfl _ rfl
  | false =>
  rw [c2, if_neg (by decide)] at hr
  simp [go_sem]
  rw [then_step, th_ite, if_neg (by simp [go_sem])]
  rw [then_step, th_call, if_pos (by rfl), s_ctP]
  refine ⟨m, by omega, b, sl, L, p, t, q, rfl, W, hr, by omega, fun v k g A hI => ?_⟩
  simp [go_sem, ptrv]; refine ⟨some (v, 0), rfl, ?_⟩
  simp only [then_step]; simp [go_sem, ep]
  exact hφ v k g A hI
def binInv (h : Hp) (b : Nat) (sl : Slc) (L : List Tok) (t : Tr) (q : PS) (lvl n : Nat) : Nat → Ctx → Prop := fun _ C =>
  ∃ x0 x1 v x p1 k1 g1 m1, C = ⟨[(lvl : Nat)], [], [], [], [], [some (b, 0), x0, x1, some (v, 0)], k1, noM⟩ ∧ At h b sl L p1 k1 g1 ∧ It g1 v x ∧ m1 ≤ n ∧ pBinL L m1 lvl x p1 = some (t, q) ∧ p1.d + m1 ≤ 1000000000000
set_option maxHeartbeats 4000000 in
theorem bin_ok {n : Nat} (HB : BinOk n) (HU : UnOk n) : BinOk (n + 1) := by
  rintro args h φ w ⟨m, hm, b, sl, L, p, t, q, lvl, rfl, hl7, W, hr, hd, hφ⟩ hH
  cases m with
  | zero => cases hr
  | succ m =>
  refine by_fm Tryz.func22 gen_pbin ps_pbin [ctOp, ctPPass, ctNumbered, ctBin HB, ctUn HU] φ (binInv h b sl L t q lvl n) (fun _ => measP b L.length) ⟨[(lvl : Nat)], [], [], [], [], [some (b, 0)], h, noM⟩ ⟨rfl, rfl, rfl, rfl, rfl, rfl⟩ ones_nil ?_ w hH rfl
  generalize hE : (⟨specOf _, _, _, _⟩ : Env) = E
  have s_ctOp : E.spec 47 = (ctOp).spec := by rw [← hE]; rfl
  have s_ctPPass : E.spec 48 = (ctPPass).spec := by rw [← hE]; rfl
  have s_ctNumbered : E.spec 49 = (ctNumbered).spec := by rw [← hE]; rfl
  have s_ctB : E.spec 22 = (ctBin HB).spec := by rw [← hE]; rfl
  have s_ctU : E.spec 46 = (ctUn HU).spec := by rw [← hE]; rfl
  have ep : E.post = φ := by rw [← hE]
  have ei : E.inv = (binInv h b sl L t q lvl n) := by rw [← hE]
  have em : E.meas = (fun _ => measP b L.length) := by rw [← hE]
  clear hE
  unfold fm_pbin
  have A := At.start W
  rw [pBin] at hr
  by_cases c6 : 6 < lvl
  · rw [if_pos c6] at hr
    rw [th_ite, if_pos (by simp [go_sem]; omega)]
    rw [then_step, th_call, if_pos (by rfl), s_ctU]
    refine ⟨m, by omega, b, sl, L, p, t, q, rfl, W, hr, by omega, fun v k g A hI => ?_⟩
    simp [go_sem, ptrv]; refine ⟨some (v, 0), rfl, ?_⟩
    simp only [then_step]; simp [go_sem, ep]
    exact hφ v k g A hI
  rw [if_neg c6] at hr
  simp only [Option.bind_eq_some_iff] at hr
  obtain ⟨⟨x, r⟩, h1, h2⟩ := hr
  rw [th_ite, if_neg (by simp [go_sem]; omega)]
  rw [then_step, th_need]
  refine ⟨by simp [go_sem]; omega, ?_⟩
  rw [then_step, th_call, if_pos (by rfl), s_ctB]
  refine ⟨m, by omega, b, sl, L, p, x, r, lvl + 1, rfl, by omega, W, h1, by omega, fun v k g A1 hI => ?_⟩
  simp [go_sem, ptrv]; refine ⟨some (v, 0), rfl, ?_⟩
  have hrd := ((advE W.lw m).1 _ _ _ _ h1).d
  rw [then_step]
  refine loop_intro ?_ ?_
  · rw [ei]
    exact ⟨some (v, 0), none, v, x, r, k, g, m, rfl, A1, hI, by omega, h2, by dsimp only at *; omega⟩
  · rw [ei, em]
    rintro i' bb ss v' ll pp hh0 M ⟨x0, x1, v, x, p1, k1, g1, m1, hC, A1, hI, hm1, hb1, hd1⟩ hM
    cases hC
    have hM : M 0 = mu L p1 := hM.trans (measP_eq A1.pw rfl)
    clear h1 h2
    cases m1 with
    | zero => cases hb1
    | succ m1 =>
    rw [pBinL] at hb1
    rw [th_call, if_pos (by rfl), s_ctOp]
    refine ⟨b, sl, L, p1, lvl, rfl, A1.pw, ?_⟩
    simp [go_sem]
    by_cases c0 : pOp L lvl p1 = 0
    · rw [if_pos c0] at hb1
      cases hb1
      rw [then_step, th_ite, if_pos (by simp [go_sem, c0])]
      simp only [then_step]; simp [go_sem, ep]
      exact hφ v _ _ A1 hI
    rw [if_neg c0] at hb1
    simp only [Option.bind_eq_some_iff] at hb1
    obtain ⟨⟨y, r1⟩, h3, h4⟩ := hb1
    rw [then_step, th_ite, if_neg (by simp [go_sem, c0])]
    rw [then_step, th_call, if_pos (by rfl), s_ctPPass]
    refine ⟨b, sl, L, p1, rfl, A1.pw, ?_⟩
    simp [go_sem, tokv, tkv]
    have A2 := A1.pass
    have hpd := (adv_pass W.lw p1).d
    rw [then_step, th_need]
    refine ⟨by simp [go_sem]; omega, ?_⟩
    rw [then_step, th_call, if_pos (by rfl), s_ctB]
    refine ⟨m1, by omega, b, sl, L, _, y, r1, lvl + 1, rfl, by omega, A2.pw, h3, by omega, fun v2 k2 g2 A3 hI2 => ?_⟩
    simp [go_sem, ptrv]; refine ⟨some (v2, 0), rfl, ?_⟩
    have A4 := A2.then A3
    have Ad := (advE W.lw m1).1 _ _ _ _ h3
    have hrd1 := Ad.d
    rw [then_step, th_mk]
    intro kb hkb
    simp [go_sem]
    rw [then_step, th_call, if_pos (by rfl), s_ctNumbered]
    refine ⟨31, tk L p1, pOp L lvl p1, ⟨some (kb, 0), 2, 2⟩, rfl, fun v3 hv3 => ?_⟩
    simp [go_sem, ptrv]; refine ⟨some (v3, 0), rfl, ?_⟩
    obtain ⟨A5, I5⟩ := A4.node (vs := [v, v2]) (ts := [x, y]) hkb ⟨It.le (le_uni _ _) _ _ hI, It.le (A2.disj A3) _ _ hI2, trivial⟩ (by simp) hv3 31 (tk L p1).l (tk L p1).c (pOp L lvl p1) []
    by_cases c34 : lvl = 3 ∨ lvl = 4
    · rw [if_pos c34] at h4
      cases h4
      rw [then_step, th_ite, if_pos (by simp [go_sem]; omega)]
      simp only [then_step]; simp [go_sem, ep]
      exact hφ v3 _ _ A5 I5
    rw [if_neg c34] at h4
    rw [then_step, th_ite, if_neg (by simp [go_sem]; omega)]
    rw [then_step, says_again, ei, em]
    refine ⟨⟨_, _, v3, nd 31 (tk L p1) (pOp L lvl p1) [] [x, y], r1, _, _, m1, rfl, A5, I5, by omega, h4, by omega⟩, ?_⟩
    show measP b L.length _ < M 0
    rw [hM]
    refine Nat.lt_of_le_of_lt (Nat.le_of_eq (measP_eq A5.pw rfl)) ?_
    have m1 := mu_lt (went_pass (L := L) (op_bad c0).2) (op_bad c0).1 A1.pw.at'
    have m2 := mu_le Ad
    omega
end Go.Proofs.YthlakehilhpojaaGreatDoor
namespace Go.Proofs.YthlakehilhpojaaGreatDoor
open Go.RowKit
attribute [local go_sem] says_tt says_ff th_need th_ite th_call th_callK th_load th_store says_ret says_again BE.den IE.den SE.den LE.den AE.den CE.den PE.den VE.den KV.val Got.den Got.cnt exI allI exL allL Ctx.push Ctx.heap Ctx.cut Ctx.bare Ctx.mark Inc.blank List.getD_cons_zero List.getD_cons_succ List.cons_append List.nil_append List.append_nil List.map_cons List.map_nil List.replicate_zero List.replicate_succ specOf ltB_t leB_t ltB_f leB_f slc_val slc_nil slc_inj pt_val pt_nil hle_noHeap hle_refl hread_set hwrite_set set_same set_set noHeap_at B_inj ones_nil and_assoc
section
variable {h : Hp} {b : Nat} {sl : Slc} {L : List Tok} {p : PS} {k g : Hp}
/-- A new block, that belongs to no tree yet. -/
theorem At.put (A : At h b sl L p k g) {c : Nat} (hc : k c = none) (o : HO) : At h b sl L p (k.set c o) g := by
  have B := A.new hc o
  exact ⟨B.kp, B.pw, A.hb, fun d x hd => by rw [set_ne _ (fun e => by rw [e, A.none_g hc] at hd; cases hd)]; exact A.le d x hd, A.fr⟩
end
/-- A node that grows: its block, its row of children, and these. -/
structure Out (h : Hp) (b : Nat) (sl : Slc) (L : List Tok) (p : PS) (k g : Hp) (o : Nat) (kk l c n : Int) (x : List UInt8) (s : Slc) (vs : List Nat) (ts : List Tr) : Prop where
  at' : At h b sl L p k g
  blk : k o = some ⟨itc kk l c n x s, IT⟩
  ho : h o = none
  go : g o = none
  kids : Kids k s vs
  hs : ∀ z, s.a = some z → h z.1 = none ∧ g z.1 = none
  its : Its g vs ts
theorem it_pt : IT ≠ PT := by decide
theorem pi_pt : PI ≠ PT := by decide
theorem it_pi : IT ≠ PI := by decide
theorem it_tk : IT ≠ TK := by decide
theorem pi_tk : PI ≠ TK := by decide
theorem Kids.blk {h : Hp} {s : Slc} {vs : List Nat} (K : Kids h s vs) {z : Nat × Nat} (hz : s.a = some z) : ∃ cs, h z.1 = some ⟨cs, PI⟩ := by
  rcases K.own with ⟨h1, _⟩ | ⟨c, o, h1, h2, h3, _⟩
  · rw [h1] at hz; cases hz
  · rw [h1] at hz; cases hz
    obtain ⟨cs, ty⟩ := o
    simp only at h3; subst h3
    exact ⟨cs, h2⟩
theorem Kids.keep {h k : Hp} {s : Slc} {vs : List Nat} (K : Kids h s vs) (hk : ∀ z cs, s.a = some z → h z.1 = some ⟨cs, PI⟩ → k z.1 = some ⟨cs, PI⟩) : Kids k s vs := by
  refine ⟨?_, K.len⟩
  rcases K.own with h0 | ⟨c, o, h1, h2, h3, h4⟩
  · exact .inl h0
  · obtain ⟨cs, ty⟩ := o
    simp only at h3; subst h3
    exact .inr ⟨c, _, h1, hk _ cs h1 h2, rfl, h4⟩
section
variable {h : Hp} {b : Nat} {sl : Slc} {L : List Tok} {p : PS} {k g : Hp} {o : Nat} {kk l c n : Int} {x : List UInt8} {s : Slc} {vs : List Nat} {ts : List Tr}
theorem At.h_none (A : At h b sl L p k g) {c : Nat} (hc : k c = none) : h c = none := by
  cases hh : h c with
  | none => rfl
  | some y => exact absurd hc (A.dom (by rw [hh]; simp))
theorem Out.ob (O : Out h b sl L p k g o kk l c n x s vs ts) : o ≠ b := fun e => by
  have := O.blk; rw [e, O.at'.pw.blk] at this
  exact it_pt (HO.mk.inj (Option.some.inj this)).2.symm
theorem Out.zb (O : Out h b sl L p k g o kk l c n x s vs ts) {z : Nat × Nat} (hz : s.a = some z) : z.1 ≠ b := fun e => by
  obtain ⟨cs, h1⟩ := O.kids.blk hz
  rw [e, O.at'.pw.blk] at h1
  exact pi_pt (HO.mk.inj (Option.some.inj h1)).2.symm
theorem Out.zo (O : Out h b sl L p k g o kk l c n x s vs ts) {z : Nat × Nat} (hz : s.a = some z) : z.1 ≠ o := fun e => by
  obtain ⟨cs, h1⟩ := O.kids.blk hz
  rw [e, O.blk] at h1
  exact it_pi (HO.mk.inj (Option.some.inj h1)).2
/-- A node without children. -/
theorem At.out (A : At h b sl L p k g) (ho : k o = none) (kk l c n : Int) (x : List UInt8) : Out h b sl L p (k.set o ⟨itc kk l c n x ⟨none, 0, 0⟩, IT⟩) g o kk l c n x ⟨none, 0, 0⟩ [] [] :=
  ⟨A.put ho _, set_same _ _ _, A.h_none ho, A.none_g ho, kids_nil _, fun _ hz => (by cases hz), trivial⟩
/-- A node with children. -/
theorem At.outs (A : At h b sl L p k g) {kb : Nat} (hkb : k kb = none) (hI : Its g vs ts) (hn : vs.length ≤ 100) (ho : (k.set kb ⟨vs.map ptrv, PI⟩) o = none) (kk l c n : Int) (x : List UInt8) :
    Out h b sl L p ((k.set kb ⟨vs.map ptrv, PI⟩).set o ⟨itc kk l c n x ⟨some (kb, 0), vs.length, vs.length⟩, IT⟩) g o kk l c n x ⟨some (kb, 0), vs.length, vs.length⟩ vs ts := by
  have B := A.put hkb ⟨vs.map ptrv, PI⟩
  have hne : kb ≠ o := fun e => by rw [← e, set_same] at ho; cases ho
  refine ⟨B.put ho _, set_same _ _ _, B.h_none ho, B.none_g ho, (kids_mk k kb vs hn).keep fun z cs hz hc => ?_, fun z hz => ?_, hI⟩
  · cases hz
    rw [set_ne _ hne]; exact hc
  · cases hz
    exact ⟨A.h_none hkb, A.none_g hkb⟩
/-- The parser goes on. -/
theorem Out.move (O : Out h b sl L p k g o kk l c n x s vs ts) {q : PS} (W : PW (k.set b ⟨pcs sl q, PT⟩) b sl L q) : Out h b sl L q (k.set b ⟨pcs sl q, PT⟩) g o kk l c n x s vs ts :=
  ⟨O.at'.move W, by rw [set_ne _ O.ob]; exact O.blk, O.ho, O.go, O.kids.keep fun z cs hz hc => by rw [set_ne _ (O.zb hz)]; exact hc, O.hs, O.its⟩
theorem Out.fail (O : Out h b sl L p k g o kk l c n x s vs ts) (e : Int) : Out h b sl L (pFail L e p) (k.set b ⟨pcs sl (pFail L e p), PT⟩) g o kk l c n x s vs ts := O.move (O.at'.fail e).pw
theorem Out.pass (O : Out h b sl L p k g o kk l c n x s vs ts) : Out h b sl L (pPass L p) (k.set b ⟨pcs sl (pPass L p), PT⟩) g o kk l c n x s vs ts := O.move O.at'.pass.pw
theorem Out.must (O : Out h b sl L p k g o kk l c n x s vs ts) (w : List UInt8) : Out h b sl L (pMust L w p) (k.set b ⟨pcs sl (pMust L w p), PT⟩) g o kk l c n x s vs ts := O.move (O.at'.must w).pw
theorem Out.open (O : Out h b sl L p k g o kk l c n x s vs ts) (w : List UInt8) (hd : p.d + 1 ≤ 1000000000000) : Out h b sl L (pOpen L w p) (k.set b ⟨pcs sl (pOpen L w p), PT⟩) g o kk l c n x s vs ts := O.move (O.at'.open w hd).pw
theorem Out.shut (O : Out h b sl L p k g o kk l c n x s vs ts) (w : List UInt8) (hd : -1000000000000 ≤ p.d - 1) : Out h b sl L (pShut L w p) (k.set b ⟨pcs sl (pShut L w p), PT⟩) g o kk l c n x s vs ts := O.move (O.at'.shut w hd).pw
/-- Work done beside. -/
theorem Out.then (O : Out h b sl L p k g o kk l c n x s vs ts) {q : PS} {k' g' : Hp} (A' : At k b sl L q k' g') : Out h b sl L q k' (uni g g') o kk l c n x s vs ts := by
  refine ⟨O.at'.then A', A'.kp _ _ O.ob O.blk, O.ho, uni_none O.go (A'.fr _ (by rw [O.blk]; simp)), O.kids.keep fun z cs hz hc => A'.kp _ _ (O.zb hz) hc, fun z hz => ?_, Its.le (le_uni _ _) _ _ O.its⟩
  obtain ⟨cs, h1⟩ := O.kids.blk hz
  exact ⟨(O.hs z hz).1, uni_none (O.hs z hz).2 (A'.fr _ (by rw [h1]; simp))⟩
/-- It is done. -/
theorem Out.done (O : Out h b sl L p k g o kk l c n x s vs ts) : ∃ g', At h b sl L p k g' ∧ It g' o (.nd kk l c n x ts) := by
  let g' : Hp := fun d => if d = o ∨ s.a.map (·.1) = some d then k d else g d
  have gg : HLe g g' := fun d y hd => by
    show (if d = o ∨ s.a.map (·.1) = some d then k d else g d) = some y
    split
    · exact O.at'.le d y hd
    · exact hd
  have go : g' o = some ⟨itc kk l c n x s, IT⟩ := by
    show (if o = o ∨ _ then k o else g o) = _
    rw [if_pos (.inl rfl)]; exact O.blk
  refine ⟨g', ⟨O.at'.kp, O.at'.pw, O.at'.hb, fun d y hd => ?_, fun d hd => ?_⟩, s, vs, go, O.kids.keep fun z cs hz hc => ?_, Its.le gg _ _ O.its⟩
  · have hd' : (if d = o ∨ s.a.map (·.1) = some d then k d else g d) = some y := hd
    split at hd'
    · exact hd'
    · exact O.at'.le d y hd'
  · show (if d = o ∨ s.a.map (·.1) = some d then k d else g d) = none
    rw [if_neg]
    · exact O.at'.fr d hd
    · rintro (e | e)
      · rw [e, O.ho] at hd; exact hd rfl
      · cases hz : s.a with
        | none => rw [hz] at e; cases e
        | some z =>
          rw [hz] at e
          have e' : z.1 = d := Option.some.inj e
          rw [← e', (O.hs z hz).1] at hd; exact hd rfl
  · show (if z.1 = o ∨ s.a.map (·.1) = some z.1 then k z.1 else g z.1) = _
    rw [if_pos (.inr (by rw [hz]; rfl))]; exact hc
/-- Children more. -/
theorem out_apps {E : Env} {C : Ctx} {xe ye : LE} {f : Fm} {us : List Nat} {rs : List Tr} {kb : Nat} (O : Out h b sl L p k g o kk l c n x s vs ts) (hI : Its g us rs) (hn : vs.length ≤ 2000000) (hu : us ≠ [] ∧ us.length ≤ 100) (hkb : k kb = none) (hx : xe.den C = s) (hy : ye.den C = ⟨some (kb, 0), us.length, us.length⟩) (hC : C.h = k.set kb ⟨us.map ptrv, PI⟩)
    (hk : ∀ s' k'', k'' o = some ⟨itc kk l c n x s, IT⟩ → Out h b sl L p (k''.set o ⟨itc kk l c n x s', IT⟩) g o kk l c n x s' (vs ++ us) (ts ++ rs) → f.says E ((C.push ⟨[], [], [], [], [s'], []⟩).heap k'')) :
    (Fm.app xe ye 1 8 PI f).says E C := by
  have hlen := O.kids.len
  have hm : (2000101 : Nat) ≤ maxLen := by decide
  have zk : ∀ z, s.a = some z → z.1 ≠ kb := fun z hz e => by
    obtain ⟨cs, h1⟩ := O.kids.blk hz
    rw [e, hkb] at h1; cases h1
  rw [says_app, hx, hy, hC]
  refine ⟨vs.map ptrv, us.map ptrv, (O.kids.keep fun z cs hz hc => by rw [set_ne _ (zk z hz)]; exact hc).own, ⟨by simp, ?_⟩, fun u hu => ?_, ?_, ?_, fun s' k'' g1 g2 g3 g4 => ?_⟩
  · rw [hread_set, if_pos (by simp)]; simp [List.take_of_length_le]
  · obtain ⟨y, _, rfl⟩ := List.mem_map.1 hu; rfl
  · show s.n + us.length ≤ maxLen
    omega
  · show (s.n + us.length) * 8 ≤ _
    omega
  have g2' : s'.n = s.n + us.length := g2
  have keep : ∀ d y, (∀ z, s.a = some z → z.1 ≠ d) → k d = some y → k'' d = some y := fun d y hz hd => g4 d y hz (by rw [set_ne _ (fun e => by rw [e, hkb] at hd; cases hd)]; exact hd)
  have ko : k'' o = some ⟨itc kk l c n x s, IT⟩ := keep o _ (fun z hz => O.zo hz) O.blk
  have zne : ∀ z, s'.a = some z → z.1 ≠ o ∧ h z.1 = none ∧ g z.1 = none := fun z hz => by
    rcases g3 z hz with ⟨y, hy, e⟩ | hn
    · rw [← e]; exact ⟨O.zo hy, O.hs y hy⟩
    · have m1 : z.1 ≠ kb := fun e => by rw [e, set_same] at hn; cases hn
      rw [set_ne _ m1] at hn
      exact ⟨fun e => (by rw [e, O.blk] at hn; cases hn), O.at'.h_none hn, O.at'.none_g hn⟩
  refine hk s' k'' ko ⟨⟨fun d y hdb hd => ?_, ⟨?_, O.at'.pw.tok.keep fun d y hty hd => ?_, O.at'.pw.lw, O.at'.pw.len, O.at'.pw.at', O.at'.pw.d0, O.at'.pw.d1⟩, O.at'.hb, fun d y hd => ?_, O.at'.fr⟩, set_same _ _ _, O.ho, O.go, ?_, fun z hz => (zne z hz).2, Its.app O.its hI⟩
  · rw [set_ne _ (fun e => by rw [e, O.ho] at hd; cases hd)]
    exact keep d y (fun z hz e => by rw [← e, (O.hs z hz).1] at hd; cases hd) (O.at'.kp d y hdb hd)
  · rw [set_ne _ O.ob.symm]
    exact keep b _ (fun z hz => O.zb hz) O.at'.pw.blk
  · rw [set_ne _ (fun e => by rw [e, O.blk] at hd; cases hd; exact it_tk hty)]
    refine keep d y (fun z hz e => ?_) hd
    obtain ⟨cs, h1⟩ := O.kids.blk hz
    rw [e, hd] at h1; cases h1; exact pi_tk hty
  · rw [set_ne _ (fun e => by rw [e, O.go] at hd; cases hd)]
    exact keep d y (fun z hz e => by rw [← e, (O.hs z hz).2] at hd; cases hd) (O.at'.le d y hd)
  · refine Kids.keep (h := k'') ⟨by rw [List.map_append]; exact g1, by rw [g2', hlen]; simp⟩ fun z cs hz hc => ?_
    rw [set_ne _ (zne z hz).1]; exact hc
/-- One child more. -/
theorem out_app {E : Env} {C : Ctx} {xe ye : LE} {f : Fm} {v kb : Nat} {t : Tr} (O : Out h b sl L p k g o kk l c n x s vs ts) (hI : It g v t) (hn : vs.length ≤ 2000000) (hkb : k kb = none) (hx : xe.den C = s) (hy : ye.den C = ⟨some (kb, 0), 1, 1⟩) (hC : C.h = k.set kb ⟨[ptrv v], PI⟩)
    (hk : ∀ s' k'', k'' o = some ⟨itc kk l c n x s, IT⟩ → Out h b sl L p (k''.set o ⟨itc kk l c n x s', IT⟩) g o kk l c n x s' (vs ++ [v]) (ts ++ [t]) → f.says E ((C.push ⟨[], [], [], [], [s'], []⟩).heap k'')) :
    (Fm.app xe ye 1 8 PI f).says E C := out_apps O (us := [v]) (rs := [t]) ⟨hI, trivial⟩ hn ⟨by simp, by simp⟩ hkb hx hy hC hk
theorem itc_store {k'' : Hp} (hk4 : k'' o = some ⟨itc kk l c n x s, IT⟩) (s' : Slc) : hwrite k'' (some (o, 6)) [s'.val] = some (k''.set o ⟨itc kk l c n x s', IT⟩) := by
  simp [hwrite_of hk4, itc]
/-- A child is taken, and laid behind the others. -/
def seg (o li pi : Nat) (fc : FuncId) (args : List PE) (K : Fm) : Fm :=
  .load (.c true) (.pt o 6) 1 [(.sl (.x li))] ⟨0, 0, 0, 0, 1, 0⟩ (.need (.c true) (.nnp o) (.need (.c true) (.nnp o) (.callK (.c true) [((.c true), (.pt o 6), 1)] fc args (.p (.one (.pt pi))) ⟨0, 0, 0, 0, 0, 1⟩
    (.mk [(.pt pi)] PI 1 (.app (.x li) (.x (li + 1)) 1 8 PI (.need (.c true) (.nnp o) (.need (.c true) (.nnp o) (.store (.pt o 6) [(.sl (.x (li + 2)))] K))))))))
theorem grow {E : Env} {fc : FuncId} {args : List PE} {K : Fm} {i : List Int} {bb : List Bool} {ss : List (List UInt8)} {vv : List Value} {ls : List Slc} {pp : List (Option (Nat × Nat))} {M : Nat → Nat} {on li pi : Nat} {q : PS} {t : Tr}
    (O : Out h b sl L p k g o kk l c n x s vs ts) (ho : pp.getD on none = some (o, 0)) (hl : ls.length = li) (hp : pp.length = pi) (hol : on < pi) (hn : vs.length ≤ 2000000)
    (hs : ∀ φ : Value → Hp → Prop, (∀ v k' g', At k b sl L q k' g' → It g' v t → φ (ptrv v) k') → E.spec fc (args.map (PE.den ⟨i, bb, ss, vv, ls ++ [s], pp, k, M⟩ noOwn)) k φ)
    (hk : ∀ v kb s' k5 g', Out h b sl L q k5 g' o kk l c n x s' (vs ++ [v]) (ts ++ [t]) → Then E K ⟨i, bb, ss, vv, ls ++ [s] ++ [⟨some (kb, 0), 1, 1⟩] ++ [s'], pp ++ [some (v, 0)], k5, M⟩) :
    Then E (seg on li pi fc args K) ⟨i, bb, ss, vv, ls, pp, k, M⟩ := by
  subst hl hp
  have ho' : pp[on]? = some (some (o, 0)) := by
    rw [List.getD_eq_getElem?_getD] at ho
    cases hq : pp[on]? with
    | none => rw [hq] at ho; cases ho
    | some y => rw [hq] at ho; exact congrArg some ho
  have hlp : ∀ (u : List (Option (Nat × Nat))), (pp ++ u)[on]? = some (some (o, 0)) := fun u => by rw [List.getElem?_append_left hol]; exact ho'
  have hb1 := O.blk
  unfold seg
  rw [then_step, th_load, if_pos (by rfl)]
  refine (exI_iff _ _).2 ⟨⟨[], [], [], [], [s], []⟩, rfl, ones_nil, ?_, ?_⟩
  · simp [AE.den, CE.den, LE.den, Ctx.push, ho', hread_of hb1, itc]
  rw [then_step, th_need]
  refine ⟨by simp [BE.den, Ctx.push, ho'], ?_⟩
  rw [then_step, th_need]
  refine ⟨by simp [BE.den, Ctx.push, ho'], ?_⟩
  rw [then_step, th_callK, if_pos (by rfl)]
  simp only [Ctx.push, List.append_nil]
  refine hs _ fun v k' g' A' hI' => ?_
  have O' := O.then A'
  have hb2 := O'.blk
  refine ⟨fun y hy _ => ?_, (exI_iff _ _).2 ⟨⟨[], [], [], [], [], [some (v, 0)]⟩, rfl, ones_nil, ?_, ?_⟩⟩
  · rw [List.mem_singleton] at hy; subst hy
    simp [AE.den, ho', hread_of hb1, hread_of hb2]
  · simp [VE.den, PE.den, CE.den, ptrv]
  rw [then_step, th_mk]
  intro kb hkb
  have hkb' : k' kb = none := hkb
  rw [then_step]
  refine out_app O' (It.le (O.at'.disj A') _ _ hI') hn hkb' ?_ ?_ ?_ fun s' k4 hk4 O4 => ?_
  · simp [LE.den, Ctx.push, Ctx.heap]
  · simp [LE.den, Ctx.push, Ctx.heap]
  · simp [CE.den, Ctx.push, Ctx.heap, ptrv]
  rw [th_need]
  refine ⟨by simp [BE.den, Ctx.push, Ctx.heap, hlp], ?_⟩
  rw [then_step, th_need]
  refine ⟨by simp [BE.den, Ctx.push, Ctx.heap, hlp], ?_⟩
  rw [then_step, th_store]
  refine ⟨k4.set o ⟨itc kk l c n x s', IT⟩, ?_, ?_⟩
  rotate_left
  · have e := hk v kb s' _ _ O4
    simpa [Ctx.push, Ctx.heap] using e
  · have e := itc_store hk4 s'
    simpa [AE.den, CE.den, LE.den, Ctx.push, Ctx.heap, hlp, List.getElem?_append] using e
end
end Go.Proofs.YthlakehilhpojaaGreatDoor
