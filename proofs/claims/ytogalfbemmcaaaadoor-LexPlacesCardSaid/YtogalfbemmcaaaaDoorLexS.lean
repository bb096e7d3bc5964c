/- Tokens, part S: strings.Builder, as known memory: copyCheck, WriteByte, String. -/
import Derived.Test.YtogalfbemmcaaaaDoorLexN
import Derived.Shelf.Strings.Builder1
namespace Go.Proofs.YtogalfbemmcaaaaDoor
open Go.RowKit
attribute [local go_sem] says_tt says_ff th_need th_ite th_call th_load th_store th_mk th_new th_mks th_str says_ret says_again says_app BE.den IE.den SE.den LE.den AE.den CE.den PE.den VE.den KV.val Got.den Got.cnt exI allI exL allL Ctx.push Ctx.heap Ctx.cut Ctx.bare Ctx.mark Inc.blank List.getD_cons_zero List.getD_cons_succ List.cons_append List.nil_append List.append_nil List.map_cons List.map_nil List.replicate_zero List.replicate_succ specOf ltB_t leB_t ltB_f leB_f slc_val slc_nil slc_inj pt_val pt_nil hle_noHeap hle_refl hread_set hwrite_set set_same set_set noHeap_at B_inj ones_nil and_assoc
def fm_wbyte : Fm := (.call (.c true) false 62 [(.one (.pt 0))] (.tup []) ⟨0, 0, 0, 0, 0, 0⟩
  (.need (.c true) (.nnp 0)
  (.need (.c true) (.nnp 0)
  (.load (.c true) (.pt 0 1) 1 [(.sl (.x 0))] ⟨0, 0, 0, 0, 1, 0⟩
  (.mk [(.i .u8 (.x 0))] 5 1
  (.app (.x 0) (.x 1) 1 1 5
  (.need (.c true) (.nnp 0)
  (.need (.c true) (.nnp 0)
  (.store (.pt 0 1) [(.sl (.x 2))]
  (.ret (.p (.one (.c .niliface)))))))))))))
theorem gen_wbyte : genFn ⟨true, []⟩ Tryd.prog (fun l => ([] : List LAnn).getD l ⟨[], [], []⟩) Tryd.f57 = fm_wbyte := by kernel_rfl
theorem ps_wbyte : freshPs Tryd.prog .zero Tryd.f57.params.toList = some ([(.one (.pt 0)), (.one (.i .u8 (.x 0)))], ⟨1, 0, 0, 0, 0, 1⟩) := by kernel_rfl
def BT : TypeId := 82
theorem setCell_heap {w : World} {b : Nat} {c0 c1 v : Value} {T : TypeId} (hb : w.heap[b]? = some (.cells #[c0, c1] T (0, 0))) : (w.setCell ⟨b, 0, none⟩ v).heap[b]? = some (.cells #[v, c1] T (0, 0)) := by
  simp [World.setCell, Array.getElem?_modify, hb]
theorem setCell_other {w : World} {b c : Nat} (hc : c ≠ b) (v : Value) : (w.setCell ⟨b, 0, none⟩ v).heap[c]? = w.heap[c]? := by
  simp [World.setCell, Array.getElem?_modify, Ne.symm hc]
set_option maxHeartbeats 1000000 in
set_option maxRecDepth 100000 in
theorem cc_used (b : Nat) (w : World) (h0 : w.cell? ⟨b, 0, none⟩ = some (.pointer (some ⟨b, 0, none⟩))) :
    Calls Tryd.prog 62 #[.pointer (some ⟨b, 0, none⟩)] w fun e w' => e = .returned (.tuple #[]) ∧ w' = w := by
  obtain ⟨j, hj, _⟩ := Option.map_eq_some_iff.1 (show (Tryd.prog.info? BT).map (·.size) = some 2 by kernel_rfl)
  go_enter Tryd.func62, Tryd.ntmps62
  go_wp2
  rw [Lib.run_neq_ptr_same w _ Tryd.underlying80 hj]
  go_wp2
  go_end0
  exact ⟨rfl, rfl⟩
set_option maxHeartbeats 1000000 in
set_option maxRecDepth 100000 in
theorem cc_fresh (b : Nat) (w : World) (h0 : w.cell? ⟨b, 0, none⟩ = some (.pointer none)) (hsh : w.shape? b = some (BT, 2)) (hfz : w.frozen? ⟨b, 0, none⟩ = false) :
    Calls Tryd.prog 62 #[.pointer (some ⟨b, 0, none⟩)] w fun e w' => e = .returned (.tuple #[]) ∧ w' = w.setCell ⟨b, 0, none⟩ (.pointer (some ⟨b, 0, none⟩)) := by
  obtain ⟨j, hj, hjs⟩ := Option.map_eq_some_iff.1 (show (Tryd.prog.info? BT).map (·.size) = some 2 by kernel_rfl)
  go_enter Tryd.func62, Tryd.ntmps62
  go_wp2
  rw [Lib.run_to_unsafe w ⟨b, 0, none⟩ Tryd.underlying80 Tryd.underlying99 hj (by rw [hjs]; decide) hsh (Nat.zero_lt_succ 1)]
  simp only [Result.andThen]
  rw [Oper.upon_value]
  go_wp2
  rw [run_callFunc_extern Tryd.func67 (by kernel_rfl) (by kernel_rfl) (by kernel_rfl) (e := Extern.AbiNoEscape.same) (by kernel_rfl)]
  rw [Lib.run_noEscape]
  simp only [Result.andThen]
  rw [Oper.upon_value]
  go_wp2
  rw [Lib.run_from_unsafe w ⟨b, 0, none⟩ Tryd.underlying99 Tryd.underlying80 hj hsh (by kernel_rfl)]
  simp only [Result.andThen]
  rw [Oper.upon_value]
  go_wp2
  go_end0
  exact ⟨rfl, rfl⟩
/-- A builder's cells. -/
def bld (b : Nat) (used : Bool) (sl : Slc) : List Value := [if used then .pointer (some ⟨b, 0, none⟩) else .pointer none, sl.val]
def ctCopyCheck : Ct Tryd.prog where
  f := 62
  spec := fun args h φ => ∃ b used sl, args = [.pointer (some ⟨b, 0, none⟩)] ∧ h b = some ⟨bld b used sl, BT⟩ ∧ φ (.tuple #[]) (h.set b ⟨bld b true sl, BT⟩)
  ok := by
    rintro args h φ w ⟨b, used, sl, rfl, hb, hφ⟩ hH
    have hw := hH b _ hb
    have hlt := (Array.getElem?_eq_some_iff.1 hw).1
    cases used with
    | true =>
      rw [← set_self hb] at hφ
      refine (cc_used b w (by rw [Lib.cell_of_heap hw]; rfl)).mono ?_
      rintro e w' ⟨rfl, rfl⟩
      exact ⟨_, h, rfl, hφ, hH, Fr.refl _ _ _⟩
    | false =>
      refine (cc_fresh b w (by rw [Lib.cell_of_heap hw]; rfl) (by simp [World.shape?, hw, bld]) (Lib.frozen_of_heap hw 0)).mono ?_
      rintro e w' ⟨rfl, rfl⟩
      refine ⟨_, _, rfl, hφ, fun c o hc => ?_, ⟨rfl, rfl, rfl, by simp [World.setCell], fun c hc hn => ?_, fun c hc hn => ?_⟩⟩
      · by_cases e : c = b
        · subst e
          rw [set_same] at hc
          cases hc
          exact setCell_heap hw
        · rw [set_ne _ e] at hc
          rw [setCell_other e]
          exact hH c o hc
      · exact setCell_other (fun e => by rw [e, hb] at hn; cases hn) _
      · rw [set_ne _ (fun e => by rw [e, hb] at hn; cases hn)]; exact hn
/-- Bytes' cells. -/
def bcs (l : List UInt8) : List Value := l.map fun c => .int .u8 c.toNat
theorem bcs_app (l m : List UInt8) : bcs (l ++ m) = bcs l ++ bcs m := by simp [bcs]
theorem bcs_len (l : List UInt8) : (bcs l).length = l.length := by simp [bcs]
/-- A builder that holds bytes. -/
structure Bld (h : Hp) (b : Nat) (used : Bool) (sl : Slc) (l : List UInt8) : Prop where
  at_ : h b = some ⟨bld b used sl, BT⟩
  own : OwnS h sl (bcs l) 5 1
  n : sl.n = l.length
  ne : ∀ z, sl.a = some z → z.1 ≠ b
  fit : sl.a = none → l = []
  pos : sl.a ≠ none → l ≠ []
theorem Bld.lt {h : Hp} {b : Nat} {used : Bool} {sl : Slc} {l : List UInt8} (x : Bld h b used sl l) {c : Nat} (hc : h c = none) : ∀ z, sl.a = some z → z.1 ≠ c := fun z hz e => by
  rcases x.own with ⟨h1, _⟩ | ⟨d, o, h1, h2, _⟩
  · rw [h1] at hz; cases hz
  · rw [h1] at hz; cases hz; subst e; rw [hc] at h2; cases h2
theorem ub_cell {c : Int} (h0 : 0 ≤ c) (h1 : c ≤ 255) : Value.int .u8 ((ub c).toNat : Nat) = .int .u8 c := by
  unfold ub
  rw [UInt8.toNat_ofNat']
  congr 1
  omega
set_option maxHeartbeats 2000000 in
def ctWriteByte : Ct Tryd.prog where
  f := 57
  spec := fun args h φ => ∃ b used sl l c, args = [.pointer (some ⟨b, 0, none⟩), .int .u8 c] ∧ Bld h b used sl l ∧ 0 ≤ c ∧ c ≤ 255 ∧ l.length ≤ 1000000 ∧
    ∀ sl' k, Bld k b true sl' (l ++ [ub c]) → (∀ c o, c ≠ b → (∀ z, sl.a = some z → z.1 ≠ c) → h c = some o → k c = some o) → (∀ z, sl'.a = some z → (∃ y, sl.a = some y ∧ y.1 = z.1) ∨ h z.1 = none) → φ .nilIface k
  ok := by
    rintro args h φ w ⟨b, used, sl, l, c, rfl, X, c0, c1, hl, hφ⟩ hH
    refine by_fm Tryd.func57 gen_wbyte ps_wbyte [ctCopyCheck] φ noInv noMeas ⟨[c], [], [], [], [], [some (b, 0)], h, noM⟩ ⟨rfl, rfl, rfl, rfl, rfl, rfl⟩ ones_nil ?_ w hH rfl
    generalize hE : (⟨specOf _, _, _, _⟩ : Env) = E
    have s1 : E.spec 62 = ctCopyCheck.spec := by rw [← hE]; rfl
    have ep : E.post = φ := by rw [← hE]
    clear hE
    unfold fm_wbyte
    rw [th_call, if_pos (by rfl), s1]
    refine ⟨b, used, sl, rfl, X.at_, ?_⟩
    simp [go_sem]
    iterate 3 (simp only [then_step]; simp [go_sem, bld])
    simp only [then_step, th_mk]
    intro b1 hb1
    rw [says_app]
    have hb1' : (h.set b ⟨bld b true sl, BT⟩) b1 = none := hb1
    have n1 : b1 ≠ b := fun e => by rw [e, set_same] at hb1'; cases hb1'
    have hb1h : h b1 = none := by rw [set_ne _ n1] at hb1'; exact hb1'
    have hcs : [Value.int .u8 c] = bcs [ub c] := by simp [bcs, ub_cell c0 c1]
    have hn := X.n
    refine ⟨bcs l, bcs [ub c], own_set (own_set X.own X.ne _) (X.lt hb1h) _, ⟨by simp [go_sem], ?_⟩, ?_, ?_, ?_, ?_⟩
    · rw [← hcs]; simp [go_sem]
    · rw [← hcs]; intro u hu; simp at hu; subst hu; rfl
    · show sl.n + 1 ≤ maxLen; unfold maxLen; omega
    · show (sl.n + 1) * 1 ≤ _; omega
    intro s' k h1 h2 h3 h4
    have h2' : s'.n = sl.n + 1 := h2
    have hsl : (LE.den (⟨[c], [], [], [], [sl], [some (b, 0)], h.set b ⟨bld b true sl, BT⟩, noM⟩ : Ctx) (.x 0)) = sl := rfl
    have kb : k b = some ⟨bld b true sl, BT⟩ := h4 b _ X.ne (by
      show ((h.set b ⟨bld b true sl, BT⟩).set b1 _) b = _
      rw [set_ne _ n1.symm, set_same])
    have fb : ∀ z, s'.a = some z → z.1 ≠ b ∧ ((∃ y, sl.a = some y ∧ y.1 = z.1) ∨ h z.1 = none) := fun z hz => by
      rcases h3 z hz with ⟨y, hy, e⟩ | hn
      · exact ⟨by rw [← e]; exact X.ne y hy, .inl ⟨y, hy, e⟩⟩
      · have hn' : ((h.set b ⟨bld b true sl, BT⟩).set b1 ⟨[Value.int .u8 c], 5⟩) z.1 = none := hn
        have m1 : z.1 ≠ b1 := fun e => by rw [e, set_same] at hn'; cases hn'
        rw [set_ne _ m1] at hn'
        have m2 : z.1 ≠ b := fun e => by rw [e, set_same] at hn'; cases hn'
        rw [set_ne _ m2] at hn'
        exact ⟨m2, .inr hn'⟩
    have hfin : φ .nilIface (k.set b ⟨bld b true s', BT⟩) := by
      refine hφ s' _ ⟨set_same _ _ _, own_set (by rw [bcs_app]; exact h1) (fun z hz => (fb z hz).1) _, by rw [h2', hn]; simp, fun z hz => (fb z hz).1, fun hz => ?_, fun _ => by simp⟩ (fun d o hd hz ho => ?_) (fun z hz => (fb z hz).2)
      · exfalso
        rcases h1 with ⟨q, _⟩ | ⟨d, o, q, _⟩
        · rw [q] at h2'; simp at h2'
        · rw [q] at hz; cases hz
      · rw [set_ne _ hd]
        refine h4 d o hz ?_
        show ((h.set b ⟨bld b true sl, BT⟩).set b1 _) d = _
        rw [set_ne _ (fun e => by rw [e, hb1h] at ho; cases ho), set_ne _ hd]
        exact ho
    have kk := set_self kb
    rw [kk]
    rw [← then_step]
    iterate 4 (try simp only [then_step]; try simp [go_sem, ep, bld])
    exact hfin
set_option maxHeartbeats 2000000 in
set_option maxRecDepth 100000 in
theorem str_row (b g cap : Nat) (q : Value) (cur : Array Value) (l : List UInt8) (w : World) (hbk : w.heap[b]? = some (.cells #[q, .slice (some ⟨g, 0, none⟩) l.length cap] BT (0, 0))) (hg : w.heap[g]? = some (.cells cur 5 (0, 0))) (h0 : l ≠ []) (hcap : l.length ≤ cap) (hcm : cap ≤ maxLen)
    (hcs : cur.size = cap) (hcur : ∀ (j : Nat) (x : UInt8), l[j]? = some x → cur[j]? = some (Value.int .u8 x.toNat)) :
    Calls Tryd.prog 56 #[.pointer (some ⟨b, 0, none⟩)] w fun e w' => e = .returned (.string ⟨l.toArray⟩) ∧ w' = w.drew.freeze ⟨g, 0, none⟩ l.length := by
  have hl0 : l.length ≠ 0 := by simpa using h0
  have c1 : w.drew.cell? ⟨b, 1, none⟩ = some (.slice (some ⟨g, 0, none⟩) l.length cap) := by
    have : w.drew.heap[b]? = some (.cells #[q, .slice (some ⟨g, 0, none⟩) l.length cap] BT (0, 0)) := hbk
    rw [Lib.cell_of_heap this]; rfl
  have hSD : (Builtin.unsafeSliceData_ #[31] 89 #[.slice (some ⟨g, 0, none⟩) l.length cap]).run Tryd.prog w.drew = .ok (.pointer (some ⟨g, 0, none⟩)) w.drew :=
    Lib.run_unsafeSliceData_row _ _ _ _ _ _ (by omega)
  have hUS : (Builtin.unsafeString_ #[89, 3] 9 #[.pointer (some ⟨g, 0, none⟩), .int .i64 l.length]).run Tryd.prog w.drew = .ok (.string ⟨l.toArray⟩) (w.drew.freeze ⟨g, 0, none⟩ l.length) := by
    refine Lib.run_unsafeString_row w.drew 89 3 9 5 Tryd.underlying89 (by kernel_rfl) g cur.size (by have hg' : w.drew.heap[g]? = some (.cells cur 5 (0, 0)) := hg; simp [World.shape?, hg']) l h0 (by omega) (by unfold maxLen at hcm; omega) ?_
    intro j x hx
    rw [addr_add, Nat.zero_add]
    have hg' : w.drew.heap[g]? = some (.cells cur 5 (0, 0)) := hg
    rw [Lib.cell_of_heap hg']
    exact hcur j x hx
  have mixed : Tryd.prog.follows .mixedOrders = true := by kernel_rfl
  go_enter Tryd.func56, Tryd.ntmps56
  go_wp2
  go_region_o
  all_goals (go_wp2; go_ret; exact ⟨rfl, rfl⟩)
set_option maxHeartbeats 2000000 in
set_option maxRecDepth 100000 in
theorem str_nil (b : Nat) (q : Value) (w : World) (hbk : w.heap[b]? = some (.cells #[q, .slice none 0 0] BT (0, 0))) :
    Calls Tryd.prog 56 #[.pointer (some ⟨b, 0, none⟩)] w fun e w' => e = .returned (.string ⟨#[]⟩) ∧ w' = w.drew := by
  have c1 : w.drew.cell? ⟨b, 1, none⟩ = some (.slice none 0 0) := by
    have : w.drew.heap[b]? = some (.cells #[q, .slice none 0 0] BT (0, 0)) := hbk
    rw [Lib.cell_of_heap this]; rfl
  have hSD : (Builtin.unsafeSliceData_ #[31] 89 #[.slice none 0 0]).run Tryd.prog w.drew = .ok (.pointer none) w.drew := Lib.run_unsafeSliceData_nil _ _ _ _ _
  have hUS : (Builtin.unsafeString_ #[89, 3] 9 #[.pointer none, .int .i64 0]).run Tryd.prog w.drew = .ok (.string .empty) w.drew := Lib.run_unsafeString_none w.drew _ _ _ none
  have mixed : Tryd.prog.follows .mixedOrders = true := by kernel_rfl
  go_enter Tryd.func56, Tryd.ntmps56
  go_wp2
  go_region_o
  all_goals (go_wp2; go_ret; exact ⟨rfl, rfl⟩)
/-- Without a slice's block. -/
def Hp.drop (h : Hp) (s : Slc) : Hp := match s.a with
  | some z => h.del z.1
  | none => h
def ctString : Ct Tryd.prog where
  f := 56
  spec := fun args h φ => ∃ b used sl l, args = [.pointer (some ⟨b, 0, none⟩)] ∧ Bld h b used sl l ∧ φ (.string (B l)) (h.drop sl)
  ok := by
    rintro args h φ w ⟨b, used, sl, l, rfl, X, hφ⟩ hH
    have hw := hH b _ X.at_
    rcases X.own with ⟨h1, hx⟩ | ⟨g, o, h1, h2, h3, h4, h5, h6, h7⟩
    · subst h1
      have hl : l = [] := X.fit rfl
      subst hl
      refine (str_nil b _ w hw).mono ?_
      rintro e w' ⟨rfl, rfl⟩
      exact ⟨_, h, rfl, hφ, fun c o hc => hH c o hc, ⟨rfl, rfl, rfl, Nat.le_refl _, fun _ _ _ => rfl, fun _ _ hn => hn⟩⟩
    · have hl : l ≠ [] := X.pos (by rw [h1]; simp)
      have hg := hH g o h2
      have hn := X.n
      have hcells : bcs l = o.cs.take l.length := by rw [h7, hn, Nat.mul_one]
      obtain ⟨a, n, c⟩ := sl
      simp only at h1 hn h4 h5 h6
      subst h1 hn
      refine (str_row b g c _ o.cs.toArray l w hw (by rw [← h3]; exact hg) hl h5 h6 (by simp [h4]) (fun j x hj => ?_)).mono ?_
      · have hlt := (List.getElem?_eq_some_iff.1 hj).1
        have : (bcs l)[j]? = some (Value.int .u8 x.toNat) := by simp [bcs, hj]
        rw [hcells, List.getElem?_take, if_pos hlt] at this
        simpa using this
      · rintro e w' ⟨rfl, rfl⟩
        have hfz : ∀ k, k ≠ g → (w.drew.freeze ⟨g, 0, none⟩ l.length).heap[k]? = w.heap[k]? := fun k hk => by
          unfold World.freeze
          split
          · rfl
          · simp only [Array.getElem?_modify, if_neg hk.symm]; rfl
        have hφ' : φ (.string (B l)) (h.del g) := hφ
        refine ⟨_, h.del g, rfl, hφ', fun k o' hk => ?_, ⟨?_, ?_, ?_, ?_, fun k _ hk => ?_, fun k _ hk => ?_⟩⟩
        · have hkg : k ≠ g := fun e => by rw [e] at hk; simp [Hp.del] at hk
          rw [hfz k hkg]
          refine hH k o' ?_
          simp only [Hp.del, if_neg hkg] at hk
          exact hk
        · unfold World.freeze; split <;> rfl
        · unfold World.freeze; split <;> rfl
        · unfold World.freeze; split <;> rfl
        · unfold World.freeze; split
          · exact Nat.le_refl _
          · show w.heap.size ≤ (w.drew.heap.modify g _).size
            rw [Array.size_modify]; exact Nat.le_refl _
        · exact hfz k (fun e => by rw [e, h2] at hk; cases hk)
        · simp only [Hp.del]; split
          · rfl
          · exact hk
end Go.Proofs.YtogalfbemmcaaaaDoor
