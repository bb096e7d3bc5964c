/- The reckoner, part S: strings.Builder's copyCheck, as it is known. -/
import Derived.Test.YtcfopechdlgioaaGreatDoorEvK
import Derived.Test.YtcfopechdlgioaaGreatDoorProg
import Derived.Shelf.Strings.Builder1
namespace Go.Proofs.YtcfopechdlgioaaGreatDoor
open Go.RowKit
set_option maxHeartbeats 1000000 in
set_option maxRecDepth 100000 in
theorem cc_used' (b o : Nat) (w : World) (h0 : w.cell? ⟨b, o, none⟩ = some (.pointer (some ⟨b, o, none⟩))) :
    Calls Tryz.prog 314 #[.pointer (some ⟨b, o, none⟩)] w fun e w' => e = .returned (.tuple #[]) ∧ w' = w := by
  obtain ⟨j, hj, _⟩ := Option.map_eq_some_iff.1 (show (Tryz.prog.info? 395).map (·.size) = some 2 by kernel_rfl)
  go_enter Tryz.func314, Tryz.ntmps314
  go_wp2
  rw [Lib.run_neq_ptr_same w _ Tryz.underlying393 hj]
  go_wp2
  go_end0
  exact ⟨rfl, rfl⟩
set_option maxHeartbeats 1000000 in
set_option maxRecDepth 100000 in
theorem cc_fresh' (b o : Nat) (w : World) (e : TypeId) (cells : Nat) (h0 : w.cell? ⟨b, o, none⟩ = some (.pointer none)) (hsh : w.shape? b = some (e, cells)) (hlt : o < cells)
    (hla : liesAt Tryz.prog Tryz.prog.depth e (cells / Tryz.prog.cellsOf e) o 395 1 = true) (hfz : w.frozen? ⟨b, o, none⟩ = false) :
    Calls Tryz.prog 314 #[.pointer (some ⟨b, o, none⟩)] w fun e w' => e = .returned (.tuple #[]) ∧ w' = w.setCell ⟨b, o, none⟩ (.pointer (some ⟨b, o, none⟩)) := by
  obtain ⟨j, hj, hjs⟩ := Option.map_eq_some_iff.1 (show (Tryz.prog.info? 395).map (·.size) = some 2 by kernel_rfl)
  go_enter Tryz.func314, Tryz.ntmps314
  go_wp2
  rw [Lib.run_to_unsafe w ⟨b, o, none⟩ Tryz.underlying393 Tryz.underlying419 hj (by rw [hjs]; decide) hsh hlt]
  simp only [Result.andThen]
  rw [Oper.upon_value]
  go_wp2
  rw [run_callFunc_extern Tryz.func316 (by kernel_rfl) (by kernel_rfl) (by kernel_rfl) (e := Extern.AbiNoEscape.same) (by kernel_rfl)]
  rw [Lib.run_noEscape]
  simp only [Result.andThen]
  rw [Oper.upon_value]
  go_wp2
  rw [Lib.run_from_unsafe w ⟨b, o, none⟩ Tryz.underlying419 Tryz.underlying393 hj hsh hla]
  simp only [Result.andThen]
  rw [Oper.upon_value]
  go_wp2
  go_end0
  exact ⟨rfl, rfl⟩
theorem sp_ok : SpOk Tryz.prog (some (314, 395)) := by
  intro cc bt h
  cases h
  exact ⟨cc_used', cc_fresh'⟩
end Go.Proofs.YtcfopechdlgioaaGreatDoor
