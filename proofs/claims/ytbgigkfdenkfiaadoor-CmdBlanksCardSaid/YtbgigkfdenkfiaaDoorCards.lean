/-
  DERIVED. GIVEN WITH THE SEED: THE CARDS: each row of YtbgigkfdenkfiaaDoorRows.lean that lists a variable, with what it lists TIED to the program's text (the seventh form; the later family's looks); each row that meets fmt, with fmt's text TOLD by the authors' own Lean function (tested against real Go, not proved from fmt's source: count such statements apart). THE CARD IS WHAT COUNTS. Prove the row's statement (the work); the ties are given (YtbgigkfdenkfiaaDoorTie.lean); close each card by the builder's one call (the guide's Derived/Test/ToyasCard.lean, 'card_holds'). Laid BY PROGRAM, IN A SANDBOX (cutbox-door.mjs). By AI agents, Wed Nov 11 2026. No macro, syntax, notation, axiom, sorry.
-/
import Derived.Test.YtbgigkfdenkfiaaDoorRows
import GoSem.ClaimSeven
namespace Go.Proofs.YtbgigkfdenkfiaaDoor
namespace Rows

/-- THE TIED CARD OF 'hindcastlaw27.CmdBlanks'. -/
def cmdBlanksCard : Claim7 := { stood := { row := cmdBlanksRow, standIns := [], harness := (true, "6ab8db11c597d0556dc8c5311276a1ae3d34b7292d85b3c3f2a4c999148e9451"), looks := false }, kinds := [], alts := [], laidByText := true, laidKinds := [.data, .pinned], laidTests := true, laidLooks := .later }
def CmdBlanksCardSaid : Prop := Claim7.holds Tryd.pinned (.plain (OpenSpec.ofChange cmdBlanksSpec)) cmdBlanksCard

/-- THE TIED CARD OF 'hindcastlaw27.CmdReads'. -/
def cmdReadsCard : Claim7 := { stood := { row := cmdReadsRow, standIns := [], harness := (true, "6ab8db11c597d0556dc8c5311276a1ae3d34b7292d85b3c3f2a4c999148e9451"), looks := false }, kinds := [], alts := [], laidByText := true, laidKinds := [.data, .pinned], laidTests := true, laidLooks := .later }
def CmdReadsCardSaid : Prop := Claim7.holds Tryd.pinned (.plain (OpenSpec.ofChange cmdReadsSpec)) cmdReadsCard

/-- THE TIED CARD OF 'hindcastlaw27.CmdWrites'. -/
def cmdWritesCard : Claim7 := { stood := { row := cmdWritesRow, standIns := [], harness := (true, "6ab8db11c597d0556dc8c5311276a1ae3d34b7292d85b3c3f2a4c999148e9451"), looks := false }, kinds := [], alts := [], laidByText := true, laidKinds := [.data, .pinned], laidTests := true, laidLooks := .later }
def CmdWritesCardSaid : Prop := Claim7.holds Tryd.pinned (.plain (OpenSpec.ofChange cmdWritesSpec)) cmdWritesCard

/-- THE SECOND FORM's CARD OF 'hindcastlaw27.CmdBlanks'. -/
def cmdBlanksUptoCard : Claim7 := { stood := { row := cmdBlanksUptoRow, standIns := [], harness := (true, "6ab8db11c597d0556dc8c5311276a1ae3d34b7292d85b3c3f2a4c999148e9451"), looks := false }, kinds := [], alts := [], laidByText := true, laidKinds := [.data, .pinned], laidTests := true, laidLooks := .later }
def CmdBlanksUptoCardSaid : Prop := Claim7.holds Tryd.pinned (.plain (OpenSpec.upto cmdBlanksSpec)) cmdBlanksUptoCard

/-- THE SECOND FORM's CARD OF 'hindcastlaw27.CmdReads'. -/
def cmdReadsUptoCard : Claim7 := { stood := { row := cmdReadsUptoRow, standIns := [], harness := (true, "6ab8db11c597d0556dc8c5311276a1ae3d34b7292d85b3c3f2a4c999148e9451"), looks := false }, kinds := [], alts := [], laidByText := true, laidKinds := [.data, .pinned], laidTests := true, laidLooks := .later }
def CmdReadsUptoCardSaid : Prop := Claim7.holds Tryd.pinned (.plain (OpenSpec.upto cmdReadsSpec)) cmdReadsUptoCard

/-- THE SECOND FORM's CARD OF 'hindcastlaw27.CmdWrites'. -/
def cmdWritesUptoCard : Claim7 := { stood := { row := cmdWritesUptoRow, standIns := [], harness := (true, "6ab8db11c597d0556dc8c5311276a1ae3d34b7292d85b3c3f2a4c999148e9451"), looks := false }, kinds := [], alts := [], laidByText := true, laidKinds := [.data, .pinned], laidTests := true, laidLooks := .later }
def CmdWritesUptoCardSaid : Prop := Claim7.holds Tryd.pinned (.plain (OpenSpec.upto cmdWritesSpec)) cmdWritesUptoCard
end Rows
end Go.Proofs.YtbgigkfdenkfiaaDoor
