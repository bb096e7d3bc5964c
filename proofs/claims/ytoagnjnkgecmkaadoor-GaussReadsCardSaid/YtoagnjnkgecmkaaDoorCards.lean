/-
  DERIVED. GIVEN WITH THE SEED: THE CARDS: each row of YtoagnjnkgecmkaaDoorRows.lean that lists a variable, with what it lists TIED to the program's text (the seventh form; the later family's looks); each row that meets fmt, with fmt's text TOLD by the authors' own Lean function (tested against real Go, not proved from fmt's source: count such statements apart). THE CARD IS WHAT COUNTS. Prove the row's statement (the work); the ties are given (YtoagnjnkgecmkaaDoorTie.lean); close each card by the builder's one call (the guide's Derived/Test/ToyasCard.lean, 'card_holds'). Laid BY PROGRAM, IN A SANDBOX (cutbox-door.mjs). By AI agents, Wed Nov 11 2026. No macro, syntax, notation, axiom, sorry.
-/
import Derived.Test.YtoagnjnkgecmkaaDoorRows
import GoSem.ClaimSeven
namespace Go.Proofs.YtoagnjnkgecmkaaDoor
namespace Rows

/-- THE TIED CARD OF 'hindcastlaw02.GaussProducts'. -/
def gaussProductsCard : Claim7 := { stood := { row := gaussProductsRow, standIns := [], harness := (true, "35452d79fdb8bd4429adce737f5522a8819b8be7978db95960967d3eeb135c7d"), looks := false }, kinds := [], alts := [], laidByText := true, laidKinds := [.data, .pinned], laidTests := true, laidLooks := .later }
def GaussProductsCardSaid : Prop := Claim7.holds Tryd.pinned (.plain (OpenSpec.ofChange gaussProductsSpec)) gaussProductsCard

/-- THE TIED CARD OF 'hindcastlaw02.GaussRing'. -/
def gaussRingCard : Claim7 := { stood := { row := gaussRingRow, standIns := [], harness := (true, "35452d79fdb8bd4429adce737f5522a8819b8be7978db95960967d3eeb135c7d"), looks := false }, kinds := [], alts := [], laidByText := true, laidKinds := [.data, .pinned], laidTests := true, laidLooks := .later }
def GaussRingCardSaid : Prop := Claim7.holds Tryd.pinned (.plain (OpenSpec.ofChange gaussRingSpec)) gaussRingCard

/-- THE TIED CARD OF 'hindcastlaw02.GaussParts'. -/
def gaussPartsCard : Claim7 := { stood := { row := gaussPartsRow, standIns := [], harness := (true, "35452d79fdb8bd4429adce737f5522a8819b8be7978db95960967d3eeb135c7d"), looks := false }, kinds := [], alts := [], laidByText := true, laidKinds := [.data, .pinned], laidTests := true, laidLooks := .later }
def GaussPartsCardSaid : Prop := Claim7.holds Tryd.pinned (.plain (OpenSpec.ofChange gaussPartsSpec)) gaussPartsCard

/-- THE TIED CARD OF 'hindcastlaw02.GaussNorms'. -/
def gaussNormsCard : Claim7 := { stood := { row := gaussNormsRow, standIns := [], harness := (true, "35452d79fdb8bd4429adce737f5522a8819b8be7978db95960967d3eeb135c7d"), looks := false }, kinds := [], alts := [], laidByText := true, laidKinds := [.data, .pinned], laidTests := true, laidLooks := .later }
def GaussNormsCardSaid : Prop := Claim7.holds Tryd.pinned (.plain (OpenSpec.ofChange gaussNormsSpec)) gaussNormsCard

/-- THE TIED CARD OF 'hindcastlaw02.GaussSums'. -/
def gaussSumsCard : Claim7 := { stood := { row := gaussSumsRow, standIns := [], harness := (true, "35452d79fdb8bd4429adce737f5522a8819b8be7978db95960967d3eeb135c7d"), looks := false }, kinds := [], alts := [], laidByText := true, laidKinds := [.data, .pinned], laidTests := true, laidLooks := .later }
def GaussSumsCardSaid : Prop := Claim7.holds Tryd.pinned (.plain (OpenSpec.ofChange gaussSumsSpec)) gaussSumsCard

/-- THE TIED CARD OF 'hindcastlaw02.GaussTexts'. -/
def gaussTextsCard : Claim7 := { stood := { row := gaussTextsRow, standIns := [], harness := (true, "35452d79fdb8bd4429adce737f5522a8819b8be7978db95960967d3eeb135c7d"), looks := false }, kinds := [], alts := [], laidByText := true, laidKinds := [.data, .pinned], laidTests := true, laidLooks := .later }
def GaussTextsCardSaid : Prop := Claim7.holds Tryd.pinned (.plain (OpenSpec.ofChange gaussTextsSpec)) gaussTextsCard

/-- THE TIED CARD OF 'hindcastlaw02.GaussReads'. -/
def gaussReadsCard : Claim7 := { stood := { row := gaussReadsRow, standIns := [], harness := (true, "35452d79fdb8bd4429adce737f5522a8819b8be7978db95960967d3eeb135c7d"), looks := false }, kinds := [], alts := [], laidByText := true, laidKinds := [.data, .pinned], laidTests := true, laidLooks := .later }
def GaussReadsCardSaid : Prop := Claim7.holds Tryd.pinned (.plain (OpenSpec.ofChange gaussReadsSpec)) gaussReadsCard

/-- THE SECOND FORM's CARD OF 'hindcastlaw02.GaussProducts'. -/
def gaussProductsUptoCard : Claim7 := { stood := { row := gaussProductsUptoRow, standIns := [], harness := (true, "35452d79fdb8bd4429adce737f5522a8819b8be7978db95960967d3eeb135c7d"), looks := false }, kinds := [], alts := [], laidByText := true, laidKinds := [.data, .pinned], laidTests := true, laidLooks := .later }
def GaussProductsUptoCardSaid : Prop := Claim7.holds Tryd.pinned (.plain (OpenSpec.upto gaussProductsSpec)) gaussProductsUptoCard

/-- THE SECOND FORM's CARD OF 'hindcastlaw02.GaussRing'. -/
def gaussRingUptoCard : Claim7 := { stood := { row := gaussRingUptoRow, standIns := [], harness := (true, "35452d79fdb8bd4429adce737f5522a8819b8be7978db95960967d3eeb135c7d"), looks := false }, kinds := [], alts := [], laidByText := true, laidKinds := [.data, .pinned], laidTests := true, laidLooks := .later }
def GaussRingUptoCardSaid : Prop := Claim7.holds Tryd.pinned (.plain (OpenSpec.upto gaussRingSpec)) gaussRingUptoCard

/-- THE SECOND FORM's CARD OF 'hindcastlaw02.GaussParts'. -/
def gaussPartsUptoCard : Claim7 := { stood := { row := gaussPartsUptoRow, standIns := [], harness := (true, "35452d79fdb8bd4429adce737f5522a8819b8be7978db95960967d3eeb135c7d"), looks := false }, kinds := [], alts := [], laidByText := true, laidKinds := [.data, .pinned], laidTests := true, laidLooks := .later }
def GaussPartsUptoCardSaid : Prop := Claim7.holds Tryd.pinned (.plain (OpenSpec.upto gaussPartsSpec)) gaussPartsUptoCard

/-- THE SECOND FORM's CARD OF 'hindcastlaw02.GaussNorms'. -/
def gaussNormsUptoCard : Claim7 := { stood := { row := gaussNormsUptoRow, standIns := [], harness := (true, "35452d79fdb8bd4429adce737f5522a8819b8be7978db95960967d3eeb135c7d"), looks := false }, kinds := [], alts := [], laidByText := true, laidKinds := [.data, .pinned], laidTests := true, laidLooks := .later }
def GaussNormsUptoCardSaid : Prop := Claim7.holds Tryd.pinned (.plain (OpenSpec.upto gaussNormsSpec)) gaussNormsUptoCard

/-- THE SECOND FORM's CARD OF 'hindcastlaw02.GaussSums'. -/
def gaussSumsUptoCard : Claim7 := { stood := { row := gaussSumsUptoRow, standIns := [], harness := (true, "35452d79fdb8bd4429adce737f5522a8819b8be7978db95960967d3eeb135c7d"), looks := false }, kinds := [], alts := [], laidByText := true, laidKinds := [.data, .pinned], laidTests := true, laidLooks := .later }
def GaussSumsUptoCardSaid : Prop := Claim7.holds Tryd.pinned (.plain (OpenSpec.upto gaussSumsSpec)) gaussSumsUptoCard

/-- THE SECOND FORM's CARD OF 'hindcastlaw02.GaussTexts'. -/
def gaussTextsUptoCard : Claim7 := { stood := { row := gaussTextsUptoRow, standIns := [], harness := (true, "35452d79fdb8bd4429adce737f5522a8819b8be7978db95960967d3eeb135c7d"), looks := false }, kinds := [], alts := [], laidByText := true, laidKinds := [.data, .pinned], laidTests := true, laidLooks := .later }
def GaussTextsUptoCardSaid : Prop := Claim7.holds Tryd.pinned (.plain (OpenSpec.upto gaussTextsSpec)) gaussTextsUptoCard

/-- THE SECOND FORM's CARD OF 'hindcastlaw02.GaussReads'. -/
def gaussReadsUptoCard : Claim7 := { stood := { row := gaussReadsUptoRow, standIns := [], harness := (true, "35452d79fdb8bd4429adce737f5522a8819b8be7978db95960967d3eeb135c7d"), looks := false }, kinds := [], alts := [], laidByText := true, laidKinds := [.data, .pinned], laidTests := true, laidLooks := .later }
def GaussReadsUptoCardSaid : Prop := Claim7.holds Tryd.pinned (.plain (OpenSpec.upto gaussReadsSpec)) gaussReadsUptoCard
end Rows
end Go.Proofs.YtoagnjnkgecmkaaDoor
