/-
  NARROWER THAN 'FOR EVERY INPUT', by the rows' own cells (each row's printed sentence says how): PrettyTerms: laid · PrettyExprs: laid · PrettyBack: laid · PrettyAgain: laid.
  DERIVED. THE GIVEN ROWS OF THIS SEAT. 4 by the template 'for every input the law returns true; each argument reads behind the call as it read before'; 0 by the template 'total and deterministic' (their statements: YtllbpdllkkcajaaGreatDoorTotals.lean).
  GIVEN WITH THE SEED: the statements are not yours to turn. If you find one false, say at which input.
  Laid BY PROGRAM, IN A SANDBOX (cutbox-rows.mjs): the forced cells as the released guide's own fill.sh prints them over the translation d7b621225d3f53d2… (all of the seat's roots in one cut). By AI agents, Wed Nov 11 2026. No macro, syntax, notation, axiom, sorry.
-/
import Derived.Test.YtllbpdllkkcajaaGreatDoorChecked
import GoSem.PinnedTables
import GoSem.Claim
import GoSem.ClaimJoined
import GoSem.ClaimMapViews
import Derived.JoinedTies
import Derived.KernelRfl
namespace Go.Proofs.YtllbpdllkkcajaaGreatDoor
/- THE CELL 'sum', in the pinned program and in every row, IS THE sha256 OF THE DUMP (.gsa) THAT YtllbpdllkkcajaaGreatDoorProg.lean LOADS. Nothing in Lean hashes anything: it is a label: what it is worth is what the hold of that sum in a sandbox is worth. -/
noncomputable def Tryz.pinned : Pinned := { name := "ytllbpdllkkcajaagreatdoor", sum := "d7b621225d3f53d285b49cc5f414326cd43b8e711d0d9951de1a10f1b4e1a35c", checked := Tryz.checked }
namespace Rows
def none {H : Type} : Left H := { results := [], args := [] }

/- WHAT THE LISTED PACKAGE-LEVEL VARIABLES READ AS WHEN THE CALL BEGINS. Each datum BY PROGRAM (the guide's laid-datum.mjs) off the statement by which the dump's own 'gosem.cut.vars' lays the variable. In a bare row this is a premise. The card (YtllbpdllkkcajaaGreatDoorCards.lean) ties it to the program's text. -/
def laid_unicode_utf8_acceptRanges {H : Type} : DataW H := .agg [.agg [.lit (.int .u8 128), .lit (.int .u8 191)], .agg [.lit (.int .u8 160), .lit (.int .u8 191)], .agg [.lit (.int .u8 128), .lit (.int .u8 159)], .agg [.lit (.int .u8 144), .lit (.int .u8 191)], .agg [.lit (.int .u8 128), .lit (.int .u8 143)], .agg [.lit (.int .u8 0), .lit (.int .u8 0)], .agg [.lit (.int .u8 0), .lit (.int .u8 0)], .agg [.lit (.int .u8 0), .lit (.int .u8 0)], .agg [.lit (.int .u8 0), .lit (.int .u8 0)], .agg [.lit (.int .u8 0), .lit (.int .u8 0)], .agg [.lit (.int .u8 0), .lit (.int .u8 0)], .agg [.lit (.int .u8 0), .lit (.int .u8 0)], .agg [.lit (.int .u8 0), .lit (.int .u8 0)], .agg [.lit (.int .u8 0), .lit (.int .u8 0)], .agg [.lit (.int .u8 0), .lit (.int .u8 0)], .agg [.lit (.int .u8 0), .lit (.int .u8 0)]]
/-- One of Go's own tables, pinned by name: the form's constant. -/
def laid_unicode_utf8_first : DataW Unit := Go.Pinned.utf8First

/-- 'hindcastlaw07.PrettyTerms': WHATEVER THE INPUT: true; the input reads as it did. -/
def prettyTermsSpec : ChangeSpec := { name := "prettyTerms", fn := fun _ => fun
  | [d] => { results := [.lit (.bool true)], args := [d] }
  | _ => none }
def prettyTermsRow : OpenClaim := { program := "ytllbpdllkkcajaagreatdoor", sum := "d7b621225d3f53d285b49cc5f414326cd43b8e711d0d9951de1a10f1b4e1a35c", func := "hindcast/hindcastlaw07.PrettyTerms", spec := "prettyTerms", inPlace := ["internal/bytealg.IndexByteString", "internal/bytealg.IndexString", "internal/abi.NoEscape"], unfollowed := true, recurses := true, named := ["unicode/utf8.first", "unicode/utf8.acceptRanges", "internal/bytealg.MaxLen"], apart := false, laid := [("unicode/utf8.acceptRanges", laid_unicode_utf8_acceptRanges), ("unicode/utf8.first", laid_unicode_utf8_first)] }
def PrettyTermsSaid : Prop := prettyTermsRow.holds Tryz.pinned (OpenSpec.ofChange prettyTermsSpec)

/-- ITS FALSE NEIGHBOUR: 'it returns false'. Refute it at one input. -/
def prettyTermsWrong : ChangeSpec := { name := "prettyTerms", fn := fun _ => fun
  | [d] => { results := [.lit (.bool false)], args := [d] }
  | _ => none }
def PrettyTermsWrongFalsely : Prop := prettyTermsRow.holds Tryz.pinned (OpenSpec.ofChange prettyTermsWrong)

/-- 'hindcastlaw07.PrettyExprs': WHATEVER THE INPUT: true; the input reads as it did. -/
def prettyExprsSpec : ChangeSpec := { name := "prettyExprs", fn := fun _ => fun
  | [d] => { results := [.lit (.bool true)], args := [d] }
  | _ => none }
def prettyExprsRow : OpenClaim := { program := "ytllbpdllkkcajaagreatdoor", sum := "d7b621225d3f53d285b49cc5f414326cd43b8e711d0d9951de1a10f1b4e1a35c", func := "hindcast/hindcastlaw07.PrettyExprs", spec := "prettyExprs", inPlace := ["internal/bytealg.IndexByteString", "internal/bytealg.IndexString", "internal/abi.NoEscape"], unfollowed := true, recurses := true, named := ["unicode/utf8.first", "unicode/utf8.acceptRanges", "internal/bytealg.MaxLen"], apart := false, laid := [("unicode/utf8.acceptRanges", laid_unicode_utf8_acceptRanges), ("unicode/utf8.first", laid_unicode_utf8_first)] }
def PrettyExprsSaid : Prop := prettyExprsRow.holds Tryz.pinned (OpenSpec.ofChange prettyExprsSpec)

/-- ITS FALSE NEIGHBOUR: 'it returns false'. Refute it at one input. -/
def prettyExprsWrong : ChangeSpec := { name := "prettyExprs", fn := fun _ => fun
  | [d] => { results := [.lit (.bool false)], args := [d] }
  | _ => none }
def PrettyExprsWrongFalsely : Prop := prettyExprsRow.holds Tryz.pinned (OpenSpec.ofChange prettyExprsWrong)

/-- 'hindcastlaw07.PrettyBack': WHATEVER THE INPUT: true; the input reads as it did. -/
def prettyBackSpec : ChangeSpec := { name := "prettyBack", fn := fun _ => fun
  | [d] => { results := [.lit (.bool true)], args := [d] }
  | _ => none }
def prettyBackRow : OpenClaim := { program := "ytllbpdllkkcajaagreatdoor", sum := "d7b621225d3f53d285b49cc5f414326cd43b8e711d0d9951de1a10f1b4e1a35c", func := "hindcast/hindcastlaw07.PrettyBack", spec := "prettyBack", inPlace := ["internal/bytealg.IndexByteString", "internal/bytealg.IndexString", "internal/abi.NoEscape", "internal/bytealg.MakeNoZero"], unfollowed := true, recurses := true, named := ["unicode/utf8.first", "unicode/utf8.acceptRanges", "internal/bytealg.MaxLen"], apart := false, laid := [("unicode/utf8.acceptRanges", laid_unicode_utf8_acceptRanges), ("unicode/utf8.first", laid_unicode_utf8_first)] }
def PrettyBackSaid : Prop := prettyBackRow.holds Tryz.pinned (OpenSpec.ofChange prettyBackSpec)

/-- ITS FALSE NEIGHBOUR: 'it returns false'. Refute it at one input. -/
def prettyBackWrong : ChangeSpec := { name := "prettyBack", fn := fun _ => fun
  | [d] => { results := [.lit (.bool false)], args := [d] }
  | _ => none }
def PrettyBackWrongFalsely : Prop := prettyBackRow.holds Tryz.pinned (OpenSpec.ofChange prettyBackWrong)

/-- 'hindcastlaw07.PrettyAgain': WHATEVER THE INPUT: true; the input reads as it did. -/
def prettyAgainSpec : ChangeSpec := { name := "prettyAgain", fn := fun _ => fun
  | [d] => { results := [.lit (.bool true)], args := [d] }
  | _ => none }
def prettyAgainRow : OpenClaim := { program := "ytllbpdllkkcajaagreatdoor", sum := "d7b621225d3f53d285b49cc5f414326cd43b8e711d0d9951de1a10f1b4e1a35c", func := "hindcast/hindcastlaw07.PrettyAgain", spec := "prettyAgain", inPlace := ["internal/bytealg.IndexByteString", "internal/bytealg.IndexString", "internal/abi.NoEscape", "internal/bytealg.MakeNoZero"], unfollowed := true, recurses := true, named := ["unicode/utf8.first", "unicode/utf8.acceptRanges", "internal/bytealg.MaxLen"], apart := false, laid := [("unicode/utf8.acceptRanges", laid_unicode_utf8_acceptRanges), ("unicode/utf8.first", laid_unicode_utf8_first)] }
def PrettyAgainSaid : Prop := prettyAgainRow.holds Tryz.pinned (OpenSpec.ofChange prettyAgainSpec)

/-- ITS FALSE NEIGHBOUR: 'it returns false'. Refute it at one input. -/
def prettyAgainWrong : ChangeSpec := { name := "prettyAgain", fn := fun _ => fun
  | [d] => { results := [.lit (.bool false)], args := [d] }
  | _ => none }
def PrettyAgainWrongFalsely : Prop := prettyAgainRow.holds Tryz.pinned (OpenSpec.ofChange prettyAgainWrong)

/- THE SECOND FORM. 'bulk': how many values and letters a reading holds, each counted each time it is reached (what is shared counts as often as it is met; a slice's spare places count too). A statement '..UptoSaid' is the law's where the arguments, and the package variables that the reading takes, are together of bulk at most 1048576: NARROWER than '..Said'. Prove '..Said' where nothing that the law and all that it calls make is longer than what came in: it says more and counts as full. Else prove '..UptoSaid'. A law counts once. -/
mutual
def uptoBulk {H : Type} : DataW H → Nat
  | .lit (.string bytes) => bytes.length + 1
  | .lit _ => 1
  | .nil => 1
  | .ptr d => uptoBulk d + 1
  | .slice elems spare => uptoBulkAll elems + uptoBulkAll spare + 1
  | .agg parts => uptoBulkAll parts + 1
  | .iface _ d => uptoBulk d + 1
  | .map entries => uptoBulkEntries entries + 1
  | .held _ => 1
def uptoBulkAll {H : Type} : List (DataW H) → Nat
  | [] => 0
  | d :: r => uptoBulk d + uptoBulkAll r
def uptoBulkEntries {H : Type} : List (Lit × DataW H) → Nat
  | [] => 0
  | x :: r => uptoBulkEntry x + uptoBulkEntries r
def uptoBulkEntry {H : Type} : Lit × DataW H → Nat
  | (.string bytes, d) => bytes.length + uptoBulk d + 1
  | (_, d) => uptoBulk d + 1
 end
def uptoSmall : (H : Type) → List (DataW H) → Bool := fun _ ds => decide (uptoBulkAll ds ≤ 1048576)
def OpenSpec.upto (s : _root_.Go.ChangeSpec) : _root_.Go.OpenSpec := { _root_.Go.OpenSpec.ofChange s with cond := some uptoSmall }

/-- 'hindcastlaw07.PrettyTerms', WHERE WHAT IT READS IS OF BULK AT MOST 1048576: true; the input reads as it did. -/
def prettyTermsUptoRow : OpenClaim := { program := "ytllbpdllkkcajaagreatdoor", sum := "d7b621225d3f53d285b49cc5f414326cd43b8e711d0d9951de1a10f1b4e1a35c", func := "hindcast/hindcastlaw07.PrettyTerms", spec := "prettyTerms", inPlace := ["internal/bytealg.IndexByteString", "internal/bytealg.IndexString", "internal/abi.NoEscape"], unfollowed := true, recurses := true, named := ["unicode/utf8.first", "unicode/utf8.acceptRanges", "internal/bytealg.MaxLen"], apart := false, laid := [("unicode/utf8.acceptRanges", laid_unicode_utf8_acceptRanges), ("unicode/utf8.first", laid_unicode_utf8_first)], narrowed := true }
def PrettyTermsUptoSaid : Prop := prettyTermsUptoRow.holds Tryz.pinned (OpenSpec.upto prettyTermsSpec)

/-- 'hindcastlaw07.PrettyExprs', WHERE WHAT IT READS IS OF BULK AT MOST 1048576: true; the input reads as it did. -/
def prettyExprsUptoRow : OpenClaim := { program := "ytllbpdllkkcajaagreatdoor", sum := "d7b621225d3f53d285b49cc5f414326cd43b8e711d0d9951de1a10f1b4e1a35c", func := "hindcast/hindcastlaw07.PrettyExprs", spec := "prettyExprs", inPlace := ["internal/bytealg.IndexByteString", "internal/bytealg.IndexString", "internal/abi.NoEscape"], unfollowed := true, recurses := true, named := ["unicode/utf8.first", "unicode/utf8.acceptRanges", "internal/bytealg.MaxLen"], apart := false, laid := [("unicode/utf8.acceptRanges", laid_unicode_utf8_acceptRanges), ("unicode/utf8.first", laid_unicode_utf8_first)], narrowed := true }
def PrettyExprsUptoSaid : Prop := prettyExprsUptoRow.holds Tryz.pinned (OpenSpec.upto prettyExprsSpec)

/-- 'hindcastlaw07.PrettyBack', WHERE WHAT IT READS IS OF BULK AT MOST 1048576: true; the input reads as it did. -/
def prettyBackUptoRow : OpenClaim := { program := "ytllbpdllkkcajaagreatdoor", sum := "d7b621225d3f53d285b49cc5f414326cd43b8e711d0d9951de1a10f1b4e1a35c", func := "hindcast/hindcastlaw07.PrettyBack", spec := "prettyBack", inPlace := ["internal/bytealg.IndexByteString", "internal/bytealg.IndexString", "internal/abi.NoEscape", "internal/bytealg.MakeNoZero"], unfollowed := true, recurses := true, named := ["unicode/utf8.first", "unicode/utf8.acceptRanges", "internal/bytealg.MaxLen"], apart := false, laid := [("unicode/utf8.acceptRanges", laid_unicode_utf8_acceptRanges), ("unicode/utf8.first", laid_unicode_utf8_first)], narrowed := true }
def PrettyBackUptoSaid : Prop := prettyBackUptoRow.holds Tryz.pinned (OpenSpec.upto prettyBackSpec)

/-- 'hindcastlaw07.PrettyAgain', WHERE WHAT IT READS IS OF BULK AT MOST 1048576: true; the input reads as it did. -/
def prettyAgainUptoRow : OpenClaim := { program := "ytllbpdllkkcajaagreatdoor", sum := "d7b621225d3f53d285b49cc5f414326cd43b8e711d0d9951de1a10f1b4e1a35c", func := "hindcast/hindcastlaw07.PrettyAgain", spec := "prettyAgain", inPlace := ["internal/bytealg.IndexByteString", "internal/bytealg.IndexString", "internal/abi.NoEscape", "internal/bytealg.MakeNoZero"], unfollowed := true, recurses := true, named := ["unicode/utf8.first", "unicode/utf8.acceptRanges", "internal/bytealg.MaxLen"], apart := false, laid := [("unicode/utf8.acceptRanges", laid_unicode_utf8_acceptRanges), ("unicode/utf8.first", laid_unicode_utf8_first)], narrowed := true }
def PrettyAgainUptoSaid : Prop := prettyAgainUptoRow.holds Tryz.pinned (OpenSpec.upto prettyAgainSpec)

end Rows
end Go.Proofs.YtllbpdllkkcajaaGreatDoor
