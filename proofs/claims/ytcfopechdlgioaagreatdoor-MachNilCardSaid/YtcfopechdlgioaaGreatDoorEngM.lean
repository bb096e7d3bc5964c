/- The engine, part M: maps with strings for keys, as known memory: what they are asked and told. -/
import Derived.Test.YtcfopechdlgioaaGreatDoorEngD
import Derived.MapKept
namespace Go.Proofs.YtcfopechdlgioaaGreatDoor
open Go.RowKit
/-- The type of maps that are known. -/
abbrev mapT : TypeId := 1000004
/-- What stands at a key. -/
def mget : List Ent → List UInt8 → Option Value
  | [], _ => none
  | e :: es, s => if e.1 = s then some e.2.1 else mget es s
def mput : List Ent → List UInt8 → Value → Nat → List Ent
  | [], s, v, n => [(s, v, n)]
  | e :: es, s, v, n => if e.1 = s then (s, v, e.2.2) :: es else e :: mput es s v n
def mdel : List Ent → List UInt8 → List Ent
  | [], _ => []
  | e :: es, s => if e.1 = s then es else e :: mdel es s
theorem mget_put (s : List UInt8) (v : Value) (n : Nat) (u : List UInt8) : ∀ es : List Ent, mget (mput es s v n) u = if u = s then some v else mget es u
  | [] => by simp [mput, mget, eq_comm]
  | e :: es => by
    rw [mput]
    by_cases h : e.1 = s
    · rw [if_pos h, mget, mget]
      by_cases hu : u = s
      · rw [if_pos hu.symm, if_pos hu]
      · rw [if_neg (fun e => hu e.symm), if_neg hu, if_neg (fun he => hu (he.symm.trans h))]
    · rw [if_neg h, mget, mget, mget_put s v n u es]
      by_cases hu : u = s
      · rw [if_neg (fun e => h (e.trans hu)), if_pos hu]
        simp [hu]
      · rw [if_neg hu, if_neg hu]
/-- An entry, and what stands around it. -/
theorem mget_split {s : List UInt8} : ∀ {es : List Ent} {v : Value}, mget es s = some v → ∃ pre n post, es = pre ++ (s, v, n) :: post ∧ ∀ x ∈ pre, x.1 ≠ s
  | [], _, h => by cases h
  | e :: es, v, h => by
    rw [mget] at h
    split at h
    · rename_i he
      obtain ⟨a, b, c⟩ := e
      cases h
      cases he
      exact ⟨[], c, es, rfl, fun x hx => by cases hx⟩
    · rename_i he
      obtain ⟨pre, n, post, rfl, hp⟩ := mget_split h
      exact ⟨e :: pre, n, post, rfl, fun x hx => by rcases List.mem_cons.1 hx with rfl | hx; exact he; exact hp x hx⟩
theorem mget_none {s : List UInt8} : ∀ {es : List Ent}, mget es s = none → ∀ x ∈ es, x.1 ≠ s
  | [], _, x, hx => by cases hx
  | e :: es, h, x, hx => by
    rw [mget] at h
    split at h
    · cases h
    · rename_i he
      rcases List.mem_cons.1 hx with rfl | hx
      · exact he
      · exact mget_none h x hx
theorem mput_split {s : List UInt8} {v u : Value} {n m : Nat} {post : List Ent} : ∀ {pre : List Ent}, (∀ x ∈ pre, x.1 ≠ s) → mput (pre ++ (s, u, n) :: post) s v m = pre ++ (s, v, n) :: post
  | [], _ => by rw [List.nil_append, mput, if_pos rfl]; rfl
  | e :: pre, h => by rw [List.cons_append, mput, if_neg (h e (by simp)), mput_split fun x hx => h x (by simp [hx])]; rfl
theorem mput_new {s : List UInt8} {v : Value} {m : Nat} : ∀ {es : List Ent}, (∀ x ∈ es, x.1 ≠ s) → mput es s v m = es ++ [(s, v, m)]
  | [], _ => rfl
  | e :: es, h => by rw [mput, if_neg (h e (by simp)), mput_new fun x hx => h x (by simp [hx])]; rfl
theorem mdel_split {s : List UInt8} {u : Value} {n : Nat} {post : List Ent} : ∀ {pre : List Ent}, (∀ x ∈ pre, x.1 ≠ s) → mdel (pre ++ (s, u, n) :: post) s = pre ++ post
  | [], _ => by rw [List.nil_append, mdel, if_pos rfl]; rfl
  | e :: pre, h => by rw [List.cons_append, mdel, if_neg (h e (by simp)), mdel_split fun x hx => h x (by simp [hx])]; rfl
theorem mdel_none {s : List UInt8} : ∀ {es : List Ent}, (∀ x ∈ es, x.1 ≠ s) → mdel es s = es
  | [], _ => rfl
  | e :: es, h => by rw [mdel, if_neg (h e (by simp)), mdel_none fun x hx => h x (by simp [hx])]
theorem mdel_sub {s : List UInt8} : ∀ {es : List Ent}, ∀ x ∈ mdel es s, x ∈ es
  | [], x, hx => hx
  | e :: es, x, hx => by
    rw [mdel] at hx
    split at hx
    · exact List.mem_cons_of_mem _ hx
    · rcases List.mem_cons.1 hx with rfl | hx
      · exact List.mem_cons_self
      · exact List.mem_cons_of_mem _ (mdel_sub x hx)

/-! ### What the program's maps do -/
theorem findNow_ents {s : List UInt8} {u : Value} {n : Nat} {post : List Ent} : ∀ {pre : List Ent} (i : Nat), (∀ x ∈ pre, x.1 ≠ s) → Instr.findNow .string (.string (B s)) ((pre ++ (s, u, n) :: post).map Ent.m) i = some (some (i + pre.length, u))
  | [], i, _ => by
    have : (B s == B s) = true := (MapKept.bytes_beq _ _).2 rfl
    simp [Instr.findNow, Instr.sameNow, Ent.m, this]
  | e :: pre, i, h => by
    have he : ¬ B s = B e.1 := fun x => h e (by simp) (B_inj.mp x).symm
    have : (B s == B e.1) = false := by
      cases hq : (B s == B e.1) with
      | false => rfl
      | true => exact absurd ((MapKept.bytes_beq _ _).1 hq) he
    rw [List.cons_append, List.map_cons, Instr.findNow]
    simp only [Instr.sameNow, Ent.m, this]
    have ih := findNow_ents (u := u) (n := n) (post := post) (pre := pre) (i + 1) fun x hx => h x (by simp [hx])
    rw [ih, List.length_cons]
    congr 3
    omega
theorem findNow_none {s : List UInt8} : ∀ {es : List Ent} (i : Nat), (∀ x ∈ es, x.1 ≠ s) → Instr.findNow .string (.string (B s)) (es.map Ent.m) i = some none
  | [], i, _ => rfl
  | e :: es, i, h => by
    have he : ¬ B s = B e.1 := fun x => h e (by simp) (B_inj.mp x).symm
    have : (B s == B e.1) = false := by
      cases hq : (B s == B e.1) with
      | false => rfl
      | true => exact absurd ((MapKept.bytes_beq _ _).1 hq) he
    rw [List.map_cons, Instr.findNow]
    simp only [Instr.sameNow, Ent.m, this]
    exact findNow_none (i + 1) fun x hx => h x (by simp [hx])
theorem modify_at {α : Type} (f : α → α) (x : α) (post : List α) : ∀ pre : List α, (pre ++ x :: post).toArray.modify pre.length f = (pre ++ f x :: post).toArray := by
  intro pre
  apply Array.ext_getElem?
  intro i
  rw [Array.getElem?_modify]
  simp only [List.getElem?_toArray]
  by_cases h : pre.length = i
  · subst h
    simp
  · rw [if_neg h]
    rcases Nat.lt_or_ge i pre.length with hi | hi
    · rw [List.getElem?_append_left hi, List.getElem?_append_left hi]
    · rw [List.getElem?_append_right hi, List.getElem?_append_right hi]
      obtain ⟨k, hk⟩ : ∃ k, i - pre.length = k + 1 := ⟨i - pre.length - 1, by omega⟩
      rw [hk, List.getElem?_cons_succ, List.getElem?_cons_succ]
theorem erase_at {α : Type} (x : α) (post pre : List α) : (pre ++ x :: post).toArray.eraseIdxIfInBounds pre.length = (pre ++ post).toArray := by
  unfold Array.eraseIdxIfInBounds
  rw [dif_pos (by simp)]
  apply Array.ext'
  rw [Array.toList_eraseIdx]
  simp [List.eraseIdx_append_of_length_le]
/-- What a map does, as a call. -/
def mapRun (t k : Nat) (args : List Value) : Sem Value :=
  match k, args with
  | 0, [m, k] => Instr.lookup t m k false
  | 1, [m, k] => Instr.lookup t m k true
  | 2, [m, k, v] => do Instr.mapUpdate t m k v; pure undef
  | 3, [m, k] => Builtin.delete_ #[t] 0 #[m, k]
  | 4, [] => Instr.makeMap t none
  | 5, [m, v] => do Instr.storeAt t m v; pure undef
  | 6, [s, y, _, _, _] => Builtin.append_ #[t, t] 0 #[s, y]
  | _, _ => pure undef
/-- A slice of these cells. -/
def Src (w : World) (y : Slc) (m : Nat) (ys : List Value) : Prop := y.n = m ∧ (m = 0 ∨ ∃ q : Nat × Nat, y.a = some q ∧ ∀ j u, ys[j]? = some u → w.cell? ⟨q.1, q.2 + j, none⟩ = some u)
/-- It runs so (7: an append of a slice that is the call's own, wherever it lies). -/
def OpRuns (P : Program) (t k : Nat) (args : List Value) (w : World) (v : Value) (w' : World) : Prop :=
  if k = 7 then ∀ (s : Value) (m sz bytes e : Nat) (ys : List Value) (y : Slc), args = s :: .int .i64 m :: .int .i64 sz :: .int .i64 bytes :: .int .i64 e :: ys → Src w y m ys → (Builtin.append_ #[t, t] 0 #[s, y.val]).run P w = .ok v w'
  else (mapRun t k args).run P w = .ok v w'
/-- What is known of it by its form. -/
def opPre (P : Program) (t k : Nat) (args : List Value) : Prop :=
  (k = 5 → ∃ m v, args = [m, v] ∧ sizeB P t = some v.cells.size ∧ ∀ u ∈ v.cells.toList, u.oneCell' = true) ∧
  (k = 6 → ∃ s y e i z, args = [s, y, .int .i64 ((TypeInfo.size i : Nat) : Int), .int .i64 ((TypeInfo.bytes i : Nat) : Int), .int .i64 ((e : Nat) : Int)] ∧ P.underlying t = some (.slice e) ∧ P.info? e = some i ∧ i.zero = some z ∧ z.cells.size = i.size ∧ 0 < i.size ∧ e < 1000000) ∧
  (k = 7 → ∃ s m e i z ys, args = s :: .int .i64 ((m : Nat) : Int) :: .int .i64 ((TypeInfo.size i : Nat) : Int) :: .int .i64 ((TypeInfo.bytes i : Nat) : Int) :: .int .i64 ((e : Nat) : Int) :: ys ∧ P.underlying t = some (.slice e) ∧ P.info? e = some i ∧ i.zero = some z ∧ z.cells.size = i.size ∧ 0 < i.size ∧ e < 1000000 ∧
    ys.length = m * i.size ∧ Ones ys)
theorem opPre_map {P : Program} {t k : Nat} {args : List Value} (h : k < 5) : opPre P t k args := ⟨fun e => by omega, fun e => by omega, fun e => by omega⟩
theorem opRuns_map {P : Program} {t k : Nat} {args : List Value} {w w' : World} {v : Value} (h : k < 7) : OpRuns P t k args w v w' = ((mapRun t k args).run P w = .ok v w') := by
  unfold OpRuns
  rw [if_neg (by omega)]
/-- What is said of it. -/
def mapSpec (P : Program) (f : FuncId) (args : List Value) (h : Hp) (φ : Value → Hp → Prop) : Prop := ∃ t et, strMap P t = some et ∧
  ((∃ b es s z, (f = mapF t 0 ∨ f = mapF t 1) ∧ args = [.map (some b), .string (B s)] ∧ h b = some ⟨encM es, mapT⟩ ∧ (P.info? et).bind (·.zero) = some z ∧
      φ (if f = mapF t 0 then (mget es s).getD z else .tuple #[(mget es s).getD z, .bool (mget es s).isSome]) h) ∨
   (∃ b es s v, f = mapF t 2 ∧ args = [.map (some b), .string (B s), v] ∧ h b = some ⟨encM es, mapT⟩ ∧ ∀ n, (∀ e ∈ es, e.2.2 < n) → φ undef (h.set b ⟨encM (mput es s v n), mapT⟩)) ∨
   (∃ b es s, f = mapF t 3 ∧ args = [.map (some b), .string (B s)] ∧ h b = some ⟨encM es, mapT⟩ ∧ φ (.tuple #[]) (h.set b ⟨encM (mdel es s), mapT⟩)) ∨
   (f = mapF t 4 ∧ args = [] ∧ ∀ b, h b = none → φ (.map (some b)) (h.set b ⟨encM [], mapT⟩)))
/-- What is said of an operation that is as good as a call. -/
def opSpec (P : Program) (f : FuncId) (args : List Value) (h : Hp) (φ : Value → Hp → Prop) : Prop :=
  mapSpec P f args h φ ∨ (∃ t x v k, f = mapF t 5 ∧ args = [adrVal x, v] ∧ hwrite h x v.cells.toList = some k ∧ φ undef k) ∨
  (∃ t s y sz bytes e xs ys, f = mapF t 6 ∧ args = [Slc.val s, Slc.val y, .int .i64 ((sz : Nat) : Int), .int .i64 ((bytes : Nat) : Int), .int .i64 ((e : Nat) : Int)] ∧ OwnS h s xs e sz ∧ RdS h y ys sz ∧ Ones ys ∧ s.n + y.n ≤ maxLen ∧ (s.n + y.n) * bytes ≤ 140737488355328 ∧
    ∀ s' k, OwnS k s' (xs ++ ys) e sz → s'.n = s.n + y.n → (∀ x, s'.a = some x → (∃ z, s.a = some z ∧ z.1 = x.1) ∨ h x.1 = none) → (∀ b o, (∀ x, s.a = some x → x.1 ≠ b) → h b = some o → k b = some o) → φ s'.val k) ∨
  (∃ t s m sz bytes e xs ys, f = mapF t 7 ∧ args = Slc.val s :: .int .i64 ((m : Nat) : Int) :: .int .i64 ((sz : Nat) : Int) :: .int .i64 ((bytes : Nat) : Int) :: .int .i64 ((e : Nat) : Int) :: ys ∧ OwnS h s xs e sz ∧ s.n + m ≤ maxLen ∧ (s.n + m) * bytes ≤ 140737488355328 ∧
    ∀ s' k, OwnS k s' (xs ++ ys) e sz → s'.n = s.n + m → (∀ x, s'.a = some x → (∃ z, s.a = some z ∧ z.1 = x.1) ∨ h x.1 = none) → (∀ b o, (∀ x, s.a = some x → x.1 ≠ b) → h b = some o → k b = some o) → φ s'.val k)
/-- A map that is known turns. -/
theorem map_turn {h : Hp} {w : World} (H : Holds h w) {b : Nat} {es fs : List Ent} {k k' : Nat} (hb : h b = some ⟨encM es, mapT⟩) (hw : w.heap[b]? = some (.map (es.map Ent.m).toArray k)) (hk : ∀ e ∈ fs, e.2.2 < k') :
    Holds (h.set b ⟨encM fs, mapT⟩) { w with heap := w.heap.setIfInBounds b (.map (fs.map Ent.m).toArray k') } ∧ Fr w.heap.size h (h.set b ⟨encM fs, mapT⟩) w { w with heap := w.heap.setIfInBounds b (.map (fs.map Ent.m).toArray k') } := by
  have hu : ∀ c, Un h c → c ≠ b := fun c hc e => by
    have := hc _ (by rw [e]; exact hb)
    exact absurd (show (1000004 : Nat) = 1000003 from this) (by decide)
  refine ⟨fun c o hc => ?_, rfl, rfl, rfl, by simp, fun c _ hc => (MapKept.heap_set hw).2 c (hu c hc), fun c _ hc => ?_, fun c _ hc => hc.set (hu c hc)⟩
  · by_cases e : c = b
    · subst e
      simp only [Hp.set, if_true, Option.some.injEq] at hc
      subst hc
      exact .inr ⟨rfl, fs, k', rfl, (MapKept.heap_set hw).1, hk⟩
    · simp only [Hp.set, if_neg e] at hc
      show HoldsAt o (w.heap.setIfInBounds b _)[c]?
      rw [(MapKept.heap_set hw).2 c e]
      exact H c o hc
  · simp only [Hp.set]
    rw [if_neg (fun e => by rw [e, hb] at hc; cases hc)]
    exact hc
theorem keys_str (es : List Ent) : ∀ x ∈ (es.map Ent.m).toArray.toList, MapKept.IsKey .string x.key := fun x hx => by
  obtain ⟨e, _, rfl⟩ := List.mem_map.1 (show x ∈ es.map Ent.m by simpa using hx)
  trivial
theorem strMap_spec {P : Program} {t et : TypeId} (h : strMap P t = some et) : ∃ kt, P.underlying t = some (.map kt et) ∧ P.underlying kt = some .string := by
  unfold strMap at h
  split at h
  · rename_i k e hk
    split at h
    · cases h; exact ⟨k, hk, by assumption⟩
    · cases h
  · cases h
theorem mapF_inj {t u j k : Nat} (hj : j < 8) (hk : k < 8) (h : mapF t j = mapF u k) : t = u ∧ j = k := by
  unfold mapF at h
  constructor <;> omega
/-- What is said of a map's operation is so. -/
theorem mapSpec_good {P : Program} {f : FuncId} {args : List Value} {h : Hp} {φ : Value → Hp → Prop} {w : World} (hs : mapSpec P f args h φ) (H : Holds h w) {u c : Nat} (hc : c < 8) (hf : f = mapF u c) :
    ∃ v k w', (mapRun u c args).run P w = .ok v w' ∧ φ v k ∧ Holds k w' ∧ Fr w.heap.size h k w w' := by
  obtain ⟨t, et, hm, hs⟩ := hs
  obtain ⟨kt, hmt, hkt⟩ := strMap_spec hm
  have ik : ∀ s : List UInt8, MapKept.IsKey .string (.string (B s)) := fun _ => trivial
  rcases hs with ⟨b, es, s, z, hg, rfl, hb, hz, hφ⟩ | ⟨b, es, s, v, hg, rfl, hb, hφ⟩ | ⟨b, es, s, hg, rfl, hb, hφ⟩ | ⟨hg, rfl, hφ⟩
  · obtain ⟨k, hw, _⟩ := (H b _ hb).map
    have hzero : (zeroValue et).run P w = .ok z w := by
      cases hi : P.info? et with
      | none => rw [hi] at hz; cases hz
      | some i =>
        rw [hi] at hz
        have hz : i.zero = some z := hz
        simp [zeroValue, typeInfo, hi, hz]
    have hfind : ∃ r, Instr.findNow .string (.string (B s)) (es.map Ent.m).toArray.toList 0 = some r ∧ ((mget es s = none ∧ r = none) ∨ ∃ j u, mget es s = some u ∧ r = some (j, u)) := by
      cases hg : mget es s with
      | none => exact ⟨none, findNow_none 0 (mget_none hg), .inl ⟨rfl, rfl⟩⟩
      | some u =>
        obtain ⟨pre, n, post, rfl, hp⟩ := mget_split hg
        exact ⟨_, findNow_ents 0 hp, .inr ⟨_, u, rfl, rfl⟩⟩
    obtain ⟨r, hr, hrr⟩ := hfind
    refine ⟨_, h, w, ?_, hφ, H, Fr.refl _ _ _⟩
    rcases hg with hg | hg
    · obtain ⟨rfl, rfl⟩ := mapF_inj hc (by omega) (hf.symm.trans hg)
      unfold mapRun
      rw [if_pos hg]
      rcases hrr with ⟨h1, rfl⟩ | ⟨j, u, h1, rfl⟩ <;> rw [h1] <;>
        simp [Instr.lookup, run_underlying hmt, MapKept.run_getObj_map hw, MapKept.run_checkKey hkt (ik s), MapKept.run_findKey hkt hr, Result.andThen, hzero]
    · obtain ⟨rfl, rfl⟩ := mapF_inj hc (by omega) (hf.symm.trans hg)
      unfold mapRun
      rw [if_neg (fun e => by have := (mapF_inj (by omega) (by omega) (hg.symm.trans e)).2; omega)]
      rcases hrr with ⟨h1, rfl⟩ | ⟨j, u, h1, rfl⟩ <;> rw [h1] <;>
        simp [Instr.lookup, run_underlying hmt, MapKept.run_getObj_map hw, MapKept.run_checkKey hkt (ik s), MapKept.run_findKey hkt hr, Result.andThen, hzero]
  · obtain ⟨k, hw, hk⟩ := (H b _ hb).map
    obtain ⟨rfl, rfl⟩ := mapF_inj hc (by omega) (hf.symm.trans hg)
    have hφ := hφ k hk
    cases hq : mget es s with
    | none =>
      have hn := mget_none hq
      rw [mput_new hn] at hφ
      obtain ⟨t1, t2⟩ := map_turn (fs := es ++ [(s, v, k)]) (k' := k + 1) H hb hw (fun e he => by
        rcases List.mem_append.1 he with he | he
        · have := hk e he; omega
        · rw [List.mem_singleton] at he; subst he; show k < k + 1; omega)
      refine ⟨_, _, _, ?_, hφ, t1, t2⟩
      unfold mapRun
      have hr := findNow_none (s := s) 0 hn
      simp [Instr.mapUpdate, run_underlying hmt, MapKept.run_getObj_map hw, MapKept.run_checkKey hkt (ik s), MapKept.run_findKey hkt (show Instr.findNow .string (.string (B s)) (es.map Ent.m).toArray.toList 0 = some none from hr), MapKept.run_setObj_map _ hw, Result.andThen, Ent.m]
    | some u =>
      obtain ⟨pre, n, post, rfl, hp⟩ := mget_split hq
      rw [mput_split hp] at hφ
      obtain ⟨t1, t2⟩ := map_turn (fs := pre ++ (s, v, n) :: post) (k' := k) H hb hw (fun e he => by
        rcases List.mem_append.1 he with he | he
        · exact hk e (List.mem_append_left _ he)
        · rcases List.mem_cons.1 he with rfl | he
          · exact hk (s, u, n) (by simp)
          · exact hk e (by simp [he]))
      refine ⟨_, _, _, ?_, hφ, t1, t2⟩
      unfold mapRun
      have hr := findNow_ents (s := s) (u := u) (n := n) (post := post) 0 hp
      rw [Nat.zero_add] at hr
      have hj : ((pre ++ (s, u, n) :: post).map Ent.m).toArray[pre.length]? = some (Ent.m (s, u, n)) := by simp
      have hmod : ((pre ++ (s, u, n) :: post).map Ent.m).toArray.modify pre.length (fun e => { e with key := .string (B s), val := v }) = ((pre ++ (s, v, n) :: post).map Ent.m).toArray := by
        rw [List.map_append, List.map_cons, List.map_append, List.map_cons]
        have := modify_at (fun e : MapEntry => { e with key := .string (B s), val := v }) (Ent.m (s, u, n)) (post.map Ent.m) (pre.map Ent.m)
        rw [List.length_map] at this
        rw [this]
        rfl
      simp only [Instr.mapUpdate, Sem.run_bind, run_underlying hmt, MapKept.run_getObj_map hw, MapKept.run_checkKey hkt (ik s), MapKept.run_findKey hkt (show Instr.findNow .string (.string (B s)) ((pre ++ (s, u, n) :: post).map Ent.m).toArray.toList 0 = some (some (pre.length, u)) from hr), Result.andThen, hj, Option.map_some, Option.getD_some]
      rw [show (Ent.m (s, u, n)).key = Value.string (B s) from rfl]
      simp only [MapKept.run_keyThatStays (ik s), hmod, MapKept.run_setObj_map _ hw]
      rfl
  · obtain ⟨k, hw, hk⟩ := (H b _ hb).map
    obtain ⟨rfl, rfl⟩ := mapF_inj hc (by omega) (hf.symm.trans hg)
    cases hq : mget es s with
    | none =>
      have hn := mget_none hq
      rw [mdel_none hn] at hφ
      obtain ⟨t1, t2⟩ := map_turn (fs := es) (k' := k) H hb hw hk
      refine ⟨_, _, _, ?_, hφ, t1, t2⟩
      unfold mapRun
      have hr := findNow_none (s := s) 0 hn
      simp [Builtin.delete_, run_underlying hmt, MapKept.run_getObj_map hw, MapKept.run_checkKey hkt (ik s), MapKept.run_findKey hkt (show Instr.findNow .string (.string (B s)) (es.map Ent.m).toArray.toList 0 = some none from hr), MapKept.run_setObj_map _ hw, Result.andThen]
    | some u =>
      obtain ⟨pre, n, post, rfl, hp⟩ := mget_split hq
      rw [mdel_split hp] at hφ
      obtain ⟨t1, t2⟩ := map_turn (fs := pre ++ post) (k' := k) H hb hw (fun e he => hk e (by
        rcases List.mem_append.1 he with he | he
        · exact List.mem_append_left _ he
        · simp [he]))
      refine ⟨_, _, _, ?_, hφ, t1, t2⟩
      unfold mapRun
      have hr := findNow_ents (s := s) (u := u) (n := n) (post := post) 0 hp
      rw [Nat.zero_add] at hr
      have her : ((pre ++ (s, u, n) :: post).map Ent.m).toArray.eraseIdxIfInBounds pre.length = ((pre ++ post).map Ent.m).toArray := by
        rw [List.map_append, List.map_cons, List.map_append]
        have := erase_at (Ent.m (s, u, n)) (post.map Ent.m) (pre.map Ent.m)
        rwa [List.length_map] at this
      have hfk := MapKept.run_findKey (P := P) (w := w) hkt (show Instr.findNow .string (.string (B s)) ((pre ++ (s, u, n) :: post).map Ent.m).toArray.toList 0 = some (some (pre.length, u)) from hr)
      simp only [Builtin.delete_, List.getElem?_toArray, List.getElem?_cons_zero, List.getElem?_cons_succ, Sem.run_bind, run_underlying hmt, MapKept.run_getObj_map hw, MapKept.run_checkKey hkt (ik s), hfk, Result.andThen, her, MapKept.run_setObj_map _ hw]
      rfl
  · obtain ⟨rfl, rfl⟩ := mapF_inj hc (by omega) (hf.symm.trans hg)
    have hnone : h w.heap.size = none := by
      cases hq : h w.heap.size with
      | none => rfl
      | some o => have := H.lt (b := w.heap.size) (by rw [hq]; simp); omega
    have hbel : Below w.heap.size w (w.alloc (.map #[] 0)) := (Below.refl _ _).alloc (Nat.le_refl _) _
    refine ⟨_, _, w.alloc (.map #[] 0), ?_, hφ w.heap.size hnone, fun c o hc => ?_, hbel.os, hbel.tape, hbel.output, hbel.size, fun c hc _ => hbel.block c hc, fun c hc hn => ?_, fun c hc hn => hn.set (by omega)⟩
    · unfold mapRun
      simp only [run_makeMap]
    · by_cases e : c = w.heap.size
      · subst e
        simp only [Hp.set, if_true, Option.some.injEq] at hc
        subst hc
        exact .inr ⟨rfl, [], 0, rfl, (MapKept.heap_alloc w _).1, fun e he => by cases he⟩
      · simp only [Hp.set, if_neg e] at hc
        exact H.below hbel c o hc
    · simp only [Hp.set]
      rw [if_neg (by omega)]
      exact hn
end Go.Proofs.YtcfopechdlgioaaGreatDoor
