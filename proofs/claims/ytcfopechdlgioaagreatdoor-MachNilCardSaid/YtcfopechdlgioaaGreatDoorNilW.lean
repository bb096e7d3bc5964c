/- MachNil's walk: it is reckoned. -/
import Derived.Test.YtcfopechdlgioaaGreatDoorKn4
import Derived.Test.YtcfopechdlgioaaGreatDoorEvS
namespace Go.Proofs.YtcfopechdlgioaaGreatDoor
open Go.RowKit
theorem mixed18 : Tryz.prog.follows .mixedOrders = true := by kernel_rfl
theorem call_ok {ks : List Kn} (h : CallOk Tryz.prog (knE ks)) : CallOk Tryz.prog (callE Tryz.prog (knE ks) (some (314, 395)) 3000) := (exec_sound mixed18 h sp_ok 3000).2
theorem known1 : CallOk Tryz.prog (knE [kn1]) := kn_cons (call_ok kn_nil) kn1_ok kn_nil
theorem known2 : CallOk Tryz.prog (knE [kn2]) := kn_cons (call_ok known1) kn2_ok kn_nil
theorem known3 : CallOk Tryz.prog (knE [kn3]) := kn_cons (call_ok known2) kn3_ok kn_nil
theorem known4 : CallOk Tryz.prog (knE [kn4]) := kn_cons (call_ok known3) kn4_ok kn_nil
def saysTrue (x : Option XR) : Bool := match x with
  | some (.w (.p (.c (.b q))) _ _) => q
  | _ => false
theorem saysTrue_some {x : Option XR} (h : saysTrue x = true) : ∃ H n, x = some (.w (.p (.c (.b true))) H n) := by
  unfold saysTrue at h
  split at h
  · subst h; exact ⟨_, _, rfl⟩
  · cases h
set_option maxRecDepth 1000000 in
theorem nil_says : saysTrue (callE Tryz.prog (knE [kn4]) (some (314, 395)) 3000 7 [.p (.c (.v 0))] .nil 0) = true := by decide +kernel
theorem law_nil (x : Int) (w : World) : Calls Tryz.prog 7 #[.int .i64 x] w fun e w' => e = .returned (.bool true) ∧ Below w.heap.size w w' := by
  obtain ⟨H, n, h⟩ := saysTrue_some nil_says
  obtain ⟨_, hC⟩ := call_ok known4 _ _ _ _ _ _ _ h
  have S0 : Sim w ⟨fun _ => none, fun _ => .int .i64 x⟩ (.nil : Hm) 0 w := ⟨Below.refl _ _, fun _ _ => rfl, fun b x r h => (by cases b <;> cases h), fun b c r s h => (by cases h)⟩
  refine (hC w _ w [.int .i64 x] (.cons ⟨rfl, rfl⟩ .nil) S0).mono ?_
  rintro en w' ⟨v, τ, rfl, hv, _, S, _⟩
  have hv : v = .bool true := hv
  subst hv
  exact ⟨rfl, S.bel⟩
end Go.Proofs.YtcfopechdlgioaaGreatDoor
