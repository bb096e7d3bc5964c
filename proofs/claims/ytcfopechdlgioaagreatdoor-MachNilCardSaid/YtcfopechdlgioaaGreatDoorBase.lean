/- Words for walks: strings as lists of bytes; callees that leave the world alone; cells that are there. -/
import Derived.Test.YtcfopechdlgioaaGreatDoorRows
import Derived.WalkKit
import Derived.WalkSpells
import Derived.WalkLawsBesides
import Derived.Deep.RegionHeld3
import Derived.Deep.QuietTactic
import Derived.BigQuiet
import Derived.Lib.Hide
namespace Go.Proofs.YtcfopechdlgioaaGreatDoor
open Go.RowKit

/-! ### Strings as lists of bytes -/

/-- A string of these bytes. -/
def B (l : List UInt8) : ByteArray := ⟨l.toArray⟩
/-- The byte at a place, as a number; 0 where there is none. -/
def bt (l : List UInt8) (i : Nat) : Int := ((l.getD i 0).toNat : Int)

theorem B_mk (l : List UInt8) : ByteArray.mk l.toArray = B l := rfl
theorem B_size (l : List UInt8) : (B l).size = l.length := by simp [B, ByteArray.size]
theorem B_toList (l : List UInt8) : (B l).toList = l := by rw [B, ByteArray.toList_mk]
theorem B_extract (l : List UInt8) (a b : Nat) : (B l).extract a b = B ((l.take b).drop a) := by
  rw [B, ByteArray.extract_mk, B, List.drop_take]
theorem B_append (a b : List UInt8) : B a ++ B b = B (a ++ b) := by
  apply ByteArray.ext; simp [B]
theorem B_get (l : List UInt8) (i : Nat) (h : i < (B l).size) : (((B l)[i]'h).toNat : Int) = bt l i := by
  have h' : i < l.length := by rw [B_size] at h; exact h
  have e : (B l)[i]'h = l[i] := by show l.toArray[i] = _; simp
  rw [bt, e, List.getD_eq_getElem?_getD, List.getElem?_eq_getElem h']; rfl
attribute [local go_sem] B_mk B_size B_toList B_extract B_append B_get
theorem bt_lo (l : List UInt8) (i : Nat) : 0 ≤ bt l i := by unfold bt; omega
theorem bt_hi (l : List UInt8) (i : Nat) : bt l i ≤ 255 := by
  unfold bt; have := (l.getD i 0).toNat_lt; omega
theorem bt_zero (c : UInt8) (l : List UInt8) : bt (c :: l) 0 = (c.toNat : Int) := by simp [bt]
theorem bt_succ (c : UInt8) (l : List UInt8) (i : Nat) : bt (c :: l) (i + 1) = bt l i := by simp [bt]
theorem bt_drop (l : List UInt8) (k i : Nat) : bt (l.drop k) i = bt l (k + i) := by simp [bt]
theorem string_B (s : ByteArray) : s = B s.data.toList := by
  apply ByteArray.ext; simp [B]

/-- '+' on strings, where the lengths' sum is known to fit. -/
theorem run_add_B {P : Program} (x y : List UInt8) (h : x.length + y.length ≤ 9223372036854775807) (w : World) : (Op.stringOp .add (B x) (B y)).run P w = .ok (.string (B (x ++ y))) w := by
  rw [run_string_add_sum w _ _ (by rw [B_size, B_size]; exact h), B_append]

/-! ### Worlds -/
theorem ret_int2 {k : IntKind} {a b : Int} {v : Value} (h : a = b) : Ending.returned (.tuple #[.int k a, v]) = .returned (.tuple #[.int k b, v]) := by rw [h]
theorem ret_int {k : IntKind} {a b : Int} (h : a = b) : Ending.returned (.int k a) = .returned (.int k b) := by rw [h]
theorem bcell {W w1 : World} (hb : Below W.heap.size W w1) : (∀ b o, b < W.heap.size → w1.cell? ⟨b, o, none⟩ = W.cell? ⟨b, o, none⟩) ∧ (∀ b o, b < W.heap.size → w1.frozen? ⟨b, o, none⟩ = W.frozen? ⟨b, o, none⟩) :=
  ⟨fun b o h => hb.cell (p := ⟨b, o, none⟩) h, fun b o h => hb.frozen (p := ⟨b, o, none⟩) h⟩

/-- A callee that leaves the world alone, in a region that only draws. -/
theorem same_quiet {P : Program} {f : FuncId} {args : Array Value} {w : World} {n : Nat} {v : Value}
    (h : Calls P f args (w.drewN n) fun e w' => e = .returned v ∧ w.drewN n = w') : Calls P f args (w.drewN n) fun e w'' => e = .returned v ∧ ∃ m, w'' = w.drewN m :=
  h.mono fun _ _ ⟨he, hm⟩ => ⟨he, n, hm.symm⟩
theorem below_draws {B : Nat} {a w : World} (h : Below B a w) (n : Nat) : Below B a (w.drewN n) := ⟨h.os, h.tape, h.output, h.size, h.block⟩

/-- What a cell holds; for a cell of which one says only that it is there. -/
def was (w : World) (b o : Nat) : Value := (w.cell? ⟨b, o, none⟩).getD undef
theorem was_of {w : World} {b o : Nat} {v : Value} (h : w.cell? ⟨b, o, none⟩ = some v) : w.cell? ⟨b, o, none⟩ = some (was w b o) := by
  unfold was; rw [h]; rfl
theorem was_store {w : World} {b o : Nat} (p : Addr) (v : Value) (h : w.cell? ⟨b, o, none⟩ = some (was w b o)) : (w.setCell p v).cell? ⟨b, o, none⟩ = some (was (w.setCell p v) b o) := by
  obtain ⟨u, hu⟩ := cell?_setCell_some (w := w) (p := p) (x := v) (q := ⟨b, o, none⟩) (v := was w b o) h
  exact was_of hu
theorem was_below {B : Nat} {w w1 : World} {b o : Nat} (hb : Below B w w1) (hlt : b < B) (h : w.cell? ⟨b, o, none⟩ = some (was w b o)) : w1.cell? ⟨b, o, none⟩ = some (was w1 b o) := by
  refine was_of (v := was w b o) ?_
  rw [hb.cell (p := ⟨b, o, none⟩) hlt]; exact h

/-- Behind the store of a struct of two fields into a variable that is there: what it holds. -/
theorem cells_stored {W : World} {b : Nat} {u v x y : Value} (h0 : ((W.setCell ⟨b, 0, none⟩ u).setCell ⟨b, 1, none⟩ v).cell? ⟨b, 0, none⟩ = some x) (h1 : ((W.setCell ⟨b, 0, none⟩ u).setCell ⟨b, 1, none⟩ v).cell? ⟨b, 1, none⟩ = some y) :
    ((W.setCell ⟨b, 0, none⟩ u).setCell ⟨b, 1, none⟩ v).cell? ⟨b, 0, none⟩ = some u ∧ ((W.setCell ⟨b, 0, none⟩ u).setCell ⟨b, 1, none⟩ v).cell? ⟨b, 1, none⟩ = some v := by
  rw [World.cell?_setCell_other _ _ _ _ (by simp)] at h0 ⊢
  have hex : ∀ (Z : World) (p : Addr) (a c : Value), (Z.setCell p a).cell? p = some c → (Z.setCell p a).cell? p = some a := by
    intro Z p a c h
    cases hz : Z.cell? p with
    | some t => exact World.cell?_setCell_same _ _ _ hz
    | none =>
      exfalso
      unfold World.cell? at h hz
      simp only [World.setCell, Array.getElem?_modify, if_true] at h
      revert h hz
      cases hb : Z.heap[p.block]? with
      | none => simp
      | some o => 
        cases o with
        | cells cs _ _ =>
          intro h1 h2
          cases hs : p.spot with
          | some _ => simp [hs] at h2
          | none =>
            simp only [hs] at h1 h2
            simp at h1 h2
            rw [Array.getElem?_eq_none (by simpa using h1)] at h2
            cases h2
        | _ => simp
  exact ⟨hex _ _ _ _ h0, hex _ _ _ _ h1⟩

/-- 'string(b[i:])': the bytes that the cells hold. -/
theorem run_bytes_B {P : Program} (w : World) (src dst e : TypeId) (b off c : Nat) (l : List UInt8)
    (hs : P.underlying src = some (.slice e)) (he : P.underlying e = some (.int .u8)) (hd : P.underlying dst = some .string)
    (h : ∀ j, j < l.length → w.cell? ⟨b, off + j, none⟩ = some (.int .u8 (bt l j))) :
    (convert src dst (.slice (some ⟨b, off, none⟩) l.length c)).run P w = .ok (.string (B l)) w := by
  rw [run_convert_bytes_string w src dst e _ _ _ hs he hd]
  have hl : (loadCells ⟨b, off, none⟩ l.length).run P w = .ok ((l.map fun c => (c.toNat : Int)).map (Value.int .u8)).toArray w := by
    have := run_loadCells_list (P := P) w ⟨b, off, none⟩ ((l.map fun c => (c.toNat : Int)).map (Value.int .u8)) (by
      intro j v hv
      have hj : j < l.length := by
        have := List.getElem?_eq_some_iff.1 hv
        obtain ⟨h1, _⟩ := this
        simpa using h1
      have e1 := h j hj
      have e2 : v = .int .u8 (bt l j) := by
        simp only [List.map_map, List.getElem?_map, List.getElem?_eq_getElem hj, Option.map_some, Option.some.injEq] at hv
        rw [← hv, bt, List.getD_eq_getElem?_getD, List.getElem?_eq_getElem hj]; rfl
      rw [e2, ← e1]; unfold Addr.add; by_cases hj0 : j = 0 <;> simp [hj0])
    simpa using this
  rw [run_bytesToString w _ _ _ _ hl]
  congr 2
  have hgen : ∀ (l : List UInt8) (s : ByteArray), (l.map fun c => (c.toNat : Int)).foldl (fun r n => r.push (UInt8.ofNat n.toNat)) s = s ++ B l := by
    intro l
    induction l with
    | nil => intro s; apply ByteArray.ext; simp [B]
    | cons c l ih =>
      intro s
      simp only [List.map_cons, List.foldl_cons]
      rw [ih]
      apply ByteArray.ext
      simp [B, ByteArray.data_append]
  rw [hgen]
  apply ByteArray.ext; simp [B]
end Go.Proofs.YtcfopechdlgioaaGreatDoor
