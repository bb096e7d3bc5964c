/-
  DERIVED. GIVEN WITH THE SEED: THE CARDS: each row of YtllbpdllkkcajaaGreatDoorRows.lean that lists a variable, with what it lists TIED to the program's text (the seventh form; the later family's looks); each row that meets fmt, with fmt's text TOLD by the authors' own Lean function (tested against real Go, not proved from fmt's source: count such statements apart). THE CARD IS WHAT COUNTS. Prove the row's statement (the work); the ties are given (YtllbpdllkkcajaaGreatDoorTie.lean); close each card by the builder's one call (the guide's Derived/Test/ToyasCard.lean, 'card_holds'). Laid BY PROGRAM, IN A SANDBOX (cutbox-door.mjs). By AI agents, Wed Nov 11 2026. No macro, syntax, notation, axiom, sorry.
-/
import Derived.Test.YtllbpdllkkcajaaGreatDoorRows
import GoSem.ClaimSeven
namespace Go.Proofs.YtllbpdllkkcajaaGreatDoor
namespace Rows

/-- THE TIED CARD OF 'hindcastlaw07.PrettyTerms'. -/
def prettyTermsCard : Claim7 := { stood := { row := prettyTermsRow, standIns := [], harness := (true, "416f960f29d7eccae49f2b6f893b81bea14321fd23bc00e51f815f2b00df0095"), looks := false }, kinds := [], alts := [], laidByText := true, laidKinds := [.data, .pinned], laidTests := true, laidLooks := .later }
def PrettyTermsCardSaid : Prop := Claim7.holds Tryz.pinned (.plain (OpenSpec.ofChange prettyTermsSpec)) prettyTermsCard

/-- THE TIED CARD OF 'hindcastlaw07.PrettyExprs'. -/
def prettyExprsCard : Claim7 := { stood := { row := prettyExprsRow, standIns := [], harness := (true, "416f960f29d7eccae49f2b6f893b81bea14321fd23bc00e51f815f2b00df0095"), looks := false }, kinds := [], alts := [], laidByText := true, laidKinds := [.data, .pinned], laidTests := true, laidLooks := .later }
def PrettyExprsCardSaid : Prop := Claim7.holds Tryz.pinned (.plain (OpenSpec.ofChange prettyExprsSpec)) prettyExprsCard

/-- THE TIED CARD OF 'hindcastlaw07.PrettyBack'. -/
def prettyBackCard : Claim7 := { stood := { row := prettyBackRow, standIns := [], harness := (true, "416f960f29d7eccae49f2b6f893b81bea14321fd23bc00e51f815f2b00df0095"), looks := false }, kinds := [], alts := [], laidByText := true, laidKinds := [.data, .pinned], laidTests := true, laidLooks := .later }
def PrettyBackCardSaid : Prop := Claim7.holds Tryz.pinned (.plain (OpenSpec.ofChange prettyBackSpec)) prettyBackCard

/-- THE TIED CARD OF 'hindcastlaw07.PrettyAgain'. -/
def prettyAgainCard : Claim7 := { stood := { row := prettyAgainRow, standIns := [], harness := (true, "416f960f29d7eccae49f2b6f893b81bea14321fd23bc00e51f815f2b00df0095"), looks := false }, kinds := [], alts := [], laidByText := true, laidKinds := [.data, .pinned], laidTests := true, laidLooks := .later }
def PrettyAgainCardSaid : Prop := Claim7.holds Tryz.pinned (.plain (OpenSpec.ofChange prettyAgainSpec)) prettyAgainCard

/-- THE SECOND FORM's CARD OF 'hindcastlaw07.PrettyTerms'. -/
def prettyTermsUptoCard : Claim7 := { stood := { row := prettyTermsUptoRow, standIns := [], harness := (true, "416f960f29d7eccae49f2b6f893b81bea14321fd23bc00e51f815f2b00df0095"), looks := false }, kinds := [], alts := [], laidByText := true, laidKinds := [.data, .pinned], laidTests := true, laidLooks := .later }
def PrettyTermsUptoCardSaid : Prop := Claim7.holds Tryz.pinned (.plain (OpenSpec.upto prettyTermsSpec)) prettyTermsUptoCard

/-- THE SECOND FORM's CARD OF 'hindcastlaw07.PrettyExprs'. -/
def prettyExprsUptoCard : Claim7 := { stood := { row := prettyExprsUptoRow, standIns := [], harness := (true, "416f960f29d7eccae49f2b6f893b81bea14321fd23bc00e51f815f2b00df0095"), looks := false }, kinds := [], alts := [], laidByText := true, laidKinds := [.data, .pinned], laidTests := true, laidLooks := .later }
def PrettyExprsUptoCardSaid : Prop := Claim7.holds Tryz.pinned (.plain (OpenSpec.upto prettyExprsSpec)) prettyExprsUptoCard

/-- THE SECOND FORM's CARD OF 'hindcastlaw07.PrettyBack'. -/
def prettyBackUptoCard : Claim7 := { stood := { row := prettyBackUptoRow, standIns := [], harness := (true, "416f960f29d7eccae49f2b6f893b81bea14321fd23bc00e51f815f2b00df0095"), looks := false }, kinds := [], alts := [], laidByText := true, laidKinds := [.data, .pinned], laidTests := true, laidLooks := .later }
def PrettyBackUptoCardSaid : Prop := Claim7.holds Tryz.pinned (.plain (OpenSpec.upto prettyBackSpec)) prettyBackUptoCard

/-- THE SECOND FORM's CARD OF 'hindcastlaw07.PrettyAgain'. -/
def prettyAgainUptoCard : Claim7 := { stood := { row := prettyAgainUptoRow, standIns := [], harness := (true, "416f960f29d7eccae49f2b6f893b81bea14321fd23bc00e51f815f2b00df0095"), looks := false }, kinds := [], alts := [], laidByText := true, laidKinds := [.data, .pinned], laidTests := true, laidLooks := .later }
def PrettyAgainUptoCardSaid : Prop := Claim7.holds Tryz.pinned (.plain (OpenSpec.upto prettyAgainSpec)) prettyAgainUptoCard
end Rows
end Go.Proofs.YtllbpdllkkcajaaGreatDoor
