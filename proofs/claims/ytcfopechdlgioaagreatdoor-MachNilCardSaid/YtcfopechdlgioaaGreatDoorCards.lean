/-
  DERIVED. GIVEN WITH THE SEED: THE CARDS: each row of YtcfopechdlgioaaGreatDoorRows.lean that lists a variable, with what it lists TIED to the program's text (the seventh form; the later family's looks); each row that meets fmt, with fmt's text TOLD by the authors' own Lean function (tested against real Go, not proved from fmt's source: count such statements apart). THE CARD IS WHAT COUNTS. Prove the row's statement (the work); the ties are given (YtcfopechdlgioaaGreatDoorTie.lean); close each card by the builder's one call (the guide's Derived/Test/ToyasCard.lean, 'card_holds'). Laid BY PROGRAM, IN A SANDBOX (cutbox-door.mjs). By AI agents, Wed Nov 11 2026. No macro, syntax, notation, axiom, sorry.
-/
import Derived.Test.YtcfopechdlgioaaGreatDoorRows
import GoSem.ClaimSeven
namespace Go.Proofs.YtcfopechdlgioaaGreatDoor
namespace Rows

/-- THE TIED CARD OF 'hindcastlaw18.MachSees'. -/
def machSeesCard : Claim7 := { stood := { row := machSeesRow, standIns := [], harness := (true, "f8b91b38bbc83ec34c1cb231d98f51c7eae5a6b2e57eed623f9e27713702bea7"), looks := false }, kinds := [], alts := [], laidByText := true, laidKinds := [.data, .data, .data], laidTests := true, laidLooks := .later }
def MachSeesCardSaid : Prop := Claim7.holds Tryz.pinned (.plain (OpenSpec.ofChange machSeesSpec)) machSeesCard

/-- THE TIED CARD OF 'hindcastlaw18.MachRuns'. -/
def machRunsCard : Claim7 := { stood := { row := machRunsRow, standIns := [], harness := (true, "f8b91b38bbc83ec34c1cb231d98f51c7eae5a6b2e57eed623f9e27713702bea7"), looks := false }, kinds := [], alts := [], laidByText := true, laidKinds := [.data, .data, .data], laidTests := true, laidLooks := .later }
def MachRunsCardSaid : Prop := Claim7.holds Tryz.pinned (.plain (OpenSpec.ofChange machRunsSpec)) machRunsCard

/-- THE TIED CARD OF 'hindcastlaw18.MachStacks'. -/
def machStacksCard : Claim7 := { stood := { row := machStacksRow, standIns := [], harness := (true, "f8b91b38bbc83ec34c1cb231d98f51c7eae5a6b2e57eed623f9e27713702bea7"), looks := false }, kinds := [], alts := [], laidByText := true, laidKinds := [.data, .data, .data], laidTests := true, laidLooks := .later }
def MachStacksCardSaid : Prop := Claim7.holds Tryz.pinned (.plain (OpenSpec.ofChange machStacksSpec)) machStacksCard

/-- THE TIED CARD OF 'hindcastlaw18.MachSteps'. -/
def machStepsCard : Claim7 := { stood := { row := machStepsRow, standIns := [], harness := (true, "f8b91b38bbc83ec34c1cb231d98f51c7eae5a6b2e57eed623f9e27713702bea7"), looks := false }, kinds := [], alts := [], laidByText := true, laidKinds := [.data, .data, .data], laidTests := true, laidLooks := .later }
def MachStepsCardSaid : Prop := Claim7.holds Tryz.pinned (.plain (OpenSpec.ofChange machStepsSpec)) machStepsCard

/-- THE TIED CARD OF 'hindcastlaw18.MachNil'. -/
def machNilCard : Claim7 := { stood := { row := machNilRow, standIns := [], harness := (true, "f8b91b38bbc83ec34c1cb231d98f51c7eae5a6b2e57eed623f9e27713702bea7"), looks := false }, kinds := [], alts := [], laidByText := true, laidKinds := [.data, .data, .data], laidTests := true, laidLooks := .later }
def MachNilCardSaid : Prop := Claim7.holds Tryz.pinned (.plain (OpenSpec.ofChange machNilSpec)) machNilCard

/-- THE SECOND FORM's CARD OF 'hindcastlaw18.MachSees'. -/
def machSeesUptoCard : Claim7 := { stood := { row := machSeesUptoRow, standIns := [], harness := (true, "f8b91b38bbc83ec34c1cb231d98f51c7eae5a6b2e57eed623f9e27713702bea7"), looks := false }, kinds := [], alts := [], laidByText := true, laidKinds := [.data, .data, .data], laidTests := true, laidLooks := .later }
def MachSeesUptoCardSaid : Prop := Claim7.holds Tryz.pinned (.plain (OpenSpec.upto machSeesSpec)) machSeesUptoCard

/-- THE SECOND FORM's CARD OF 'hindcastlaw18.MachRuns'. -/
def machRunsUptoCard : Claim7 := { stood := { row := machRunsUptoRow, standIns := [], harness := (true, "f8b91b38bbc83ec34c1cb231d98f51c7eae5a6b2e57eed623f9e27713702bea7"), looks := false }, kinds := [], alts := [], laidByText := true, laidKinds := [.data, .data, .data], laidTests := true, laidLooks := .later }
def MachRunsUptoCardSaid : Prop := Claim7.holds Tryz.pinned (.plain (OpenSpec.upto machRunsSpec)) machRunsUptoCard

/-- THE SECOND FORM's CARD OF 'hindcastlaw18.MachStacks'. -/
def machStacksUptoCard : Claim7 := { stood := { row := machStacksUptoRow, standIns := [], harness := (true, "f8b91b38bbc83ec34c1cb231d98f51c7eae5a6b2e57eed623f9e27713702bea7"), looks := false }, kinds := [], alts := [], laidByText := true, laidKinds := [.data, .data, .data], laidTests := true, laidLooks := .later }
def MachStacksUptoCardSaid : Prop := Claim7.holds Tryz.pinned (.plain (OpenSpec.upto machStacksSpec)) machStacksUptoCard

/-- THE SECOND FORM's CARD OF 'hindcastlaw18.MachSteps'. -/
def machStepsUptoCard : Claim7 := { stood := { row := machStepsUptoRow, standIns := [], harness := (true, "f8b91b38bbc83ec34c1cb231d98f51c7eae5a6b2e57eed623f9e27713702bea7"), looks := false }, kinds := [], alts := [], laidByText := true, laidKinds := [.data, .data, .data], laidTests := true, laidLooks := .later }
def MachStepsUptoCardSaid : Prop := Claim7.holds Tryz.pinned (.plain (OpenSpec.upto machStepsSpec)) machStepsUptoCard

/-- THE SECOND FORM's CARD OF 'hindcastlaw18.MachNil'. -/
def machNilUptoCard : Claim7 := { stood := { row := machNilUptoRow, standIns := [], harness := (true, "f8b91b38bbc83ec34c1cb231d98f51c7eae5a6b2e57eed623f9e27713702bea7"), looks := false }, kinds := [], alts := [], laidByText := true, laidKinds := [.data, .data, .data], laidTests := true, laidLooks := .later }
def MachNilUptoCardSaid : Prop := Claim7.holds Tryz.pinned (.plain (OpenSpec.upto machNilSpec)) machNilUptoCard
end Rows
end Go.Proofs.YtcfopechdlgioaaGreatDoor
