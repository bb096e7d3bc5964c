/-
  NARROWER THAN 'FOR EVERY INPUT', by the rows' own cells (each row's printed sentence says how): GaussProducts: laid · GaussRing: laid · GaussParts: laid · GaussNorms: laid · GaussSums: laid · GaussTexts: laid · GaussReads: laid.
  DERIVED. THE GIVEN ROWS OF THIS SEAT. 7 by the template 'for every input the law returns true; each argument reads behind the call as it read before'; 0 by the template 'total and deterministic' (their statements: YtoagnjnkgecmkaaDoorTotals.lean).
  GIVEN WITH THE SEED: the statements are not yours to turn. If you find one false, say at which input.
  Laid BY PROGRAM, IN A SANDBOX (cutbox-rows.mjs): the forced cells as the released guide's own fill.sh prints them over the translation 3ebaa24bbe4fbf64… (all of the seat's roots in one cut). By AI agents, Wed Nov 11 2026. No macro, syntax, notation, axiom, sorry.
-/
import Derived.Test.YtoagnjnkgecmkaaDoorChecked
import GoSem.PinnedTables
import GoSem.Claim
import GoSem.ClaimJoined
import GoSem.ClaimMapViews
import Derived.JoinedTies
import Derived.KernelRfl
namespace Go.Proofs.YtoagnjnkgecmkaaDoor
/- THE CELL 'sum', in the pinned program and in every row, IS THE sha256 OF THE DUMP (.gsa) THAT YtoagnjnkgecmkaaDoorProg.lean LOADS. Nothing in Lean hashes anything: it is a label: what it is worth is what the hold of that sum in a sandbox is worth. -/
noncomputable def Tryd.pinned : Pinned := { name := "ytoagnjnkgecmkaadoor", sum := "3ebaa24bbe4fbf64e3c508d3f616a052cfe80be26b700012b14cadc708ccf4cb", checked := Tryd.checked }
namespace Rows
def none {H : Type} : Left H := { results := [], args := [] }

/- WHAT THE LISTED PACKAGE-LEVEL VARIABLES READ AS WHEN THE CALL BEGINS. Each datum BY PROGRAM (the guide's laid-datum.mjs) off the statement by which the dump's own 'gosem.cut.vars' lays the variable. In a bare row this is a premise. The card (YtoagnjnkgecmkaaDoorCards.lean) ties it to the program's text. -/
def laid_unicode_utf8_acceptRanges {H : Type} : DataW H := .agg [.agg [.lit (.int .u8 128), .lit (.int .u8 191)], .agg [.lit (.int .u8 160), .lit (.int .u8 191)], .agg [.lit (.int .u8 128), .lit (.int .u8 159)], .agg [.lit (.int .u8 144), .lit (.int .u8 191)], .agg [.lit (.int .u8 128), .lit (.int .u8 143)], .agg [.lit (.int .u8 0), .lit (.int .u8 0)], .agg [.lit (.int .u8 0), .lit (.int .u8 0)], .agg [.lit (.int .u8 0), .lit (.int .u8 0)], .agg [.lit (.int .u8 0), .lit (.int .u8 0)], .agg [.lit (.int .u8 0), .lit (.int .u8 0)], .agg [.lit (.int .u8 0), .lit (.int .u8 0)], .agg [.lit (.int .u8 0), .lit (.int .u8 0)], .agg [.lit (.int .u8 0), .lit (.int .u8 0)], .agg [.lit (.int .u8 0), .lit (.int .u8 0)], .agg [.lit (.int .u8 0), .lit (.int .u8 0)], .agg [.lit (.int .u8 0), .lit (.int .u8 0)]]
/-- One of Go's own tables, pinned by name: the form's constant. -/
def laid_unicode_utf8_first : DataW Unit := Go.Pinned.utf8First

/-- 'hindcastlaw02.GaussProducts': WHATEVER THE INPUT: true; the input reads as it did. -/
def gaussProductsSpec : ChangeSpec := { name := "gaussProducts", fn := fun _ => fun
  | [d1, d2] => { results := [.lit (.bool true)], args := [d1, d2] }
  | _ => none }
def gaussProductsRow : OpenClaim := { program := "ytoagnjnkgecmkaadoor", sum := "3ebaa24bbe4fbf64e3c508d3f616a052cfe80be26b700012b14cadc708ccf4cb", func := "hindcast/hindcastlaw02.GaussProducts", spec := "gaussProducts", inPlace := ["internal/bytealg.IndexByteString", "internal/bytealg.IndexString"], named := ["unicode/utf8.first", "unicode/utf8.acceptRanges", "internal/bytealg.MaxLen"], apart := false, laid := [("unicode/utf8.acceptRanges", laid_unicode_utf8_acceptRanges), ("unicode/utf8.first", laid_unicode_utf8_first)] }
def GaussProductsSaid : Prop := gaussProductsRow.holds Tryd.pinned (OpenSpec.ofChange gaussProductsSpec)

/-- ITS FALSE NEIGHBOUR: 'it returns false'. Refute it at one input. -/
def gaussProductsWrong : ChangeSpec := { name := "gaussProducts", fn := fun _ => fun
  | [d1, d2] => { results := [.lit (.bool false)], args := [d1, d2] }
  | _ => none }
def GaussProductsWrongFalsely : Prop := gaussProductsRow.holds Tryd.pinned (OpenSpec.ofChange gaussProductsWrong)

/-- 'hindcastlaw02.GaussRing': WHATEVER THE INPUT: true; the input reads as it did. -/
def gaussRingSpec : ChangeSpec := { name := "gaussRing", fn := fun _ => fun
  | [d1, d2, d3] => { results := [.lit (.bool true)], args := [d1, d2, d3] }
  | _ => none }
def gaussRingRow : OpenClaim := { program := "ytoagnjnkgecmkaadoor", sum := "3ebaa24bbe4fbf64e3c508d3f616a052cfe80be26b700012b14cadc708ccf4cb", func := "hindcast/hindcastlaw02.GaussRing", spec := "gaussRing", inPlace := ["internal/bytealg.IndexByteString", "internal/bytealg.IndexString"], named := ["unicode/utf8.first", "unicode/utf8.acceptRanges", "internal/bytealg.MaxLen"], apart := false, laid := [("unicode/utf8.acceptRanges", laid_unicode_utf8_acceptRanges), ("unicode/utf8.first", laid_unicode_utf8_first)] }
def GaussRingSaid : Prop := gaussRingRow.holds Tryd.pinned (OpenSpec.ofChange gaussRingSpec)

/-- ITS FALSE NEIGHBOUR: 'it returns false'. Refute it at one input. -/
def gaussRingWrong : ChangeSpec := { name := "gaussRing", fn := fun _ => fun
  | [d1, d2, d3] => { results := [.lit (.bool false)], args := [d1, d2, d3] }
  | _ => none }
def GaussRingWrongFalsely : Prop := gaussRingRow.holds Tryd.pinned (OpenSpec.ofChange gaussRingWrong)

/-- 'hindcastlaw02.GaussParts': WHATEVER THE INPUT: true; the input reads as it did. -/
def gaussPartsSpec : ChangeSpec := { name := "gaussParts", fn := fun _ => fun
  | [d1, d2] => { results := [.lit (.bool true)], args := [d1, d2] }
  | _ => none }
def gaussPartsRow : OpenClaim := { program := "ytoagnjnkgecmkaadoor", sum := "3ebaa24bbe4fbf64e3c508d3f616a052cfe80be26b700012b14cadc708ccf4cb", func := "hindcast/hindcastlaw02.GaussParts", spec := "gaussParts", inPlace := ["internal/bytealg.IndexByteString", "internal/bytealg.IndexString"], named := ["unicode/utf8.first", "unicode/utf8.acceptRanges", "internal/bytealg.MaxLen"], apart := false, laid := [("unicode/utf8.acceptRanges", laid_unicode_utf8_acceptRanges), ("unicode/utf8.first", laid_unicode_utf8_first)] }
def GaussPartsSaid : Prop := gaussPartsRow.holds Tryd.pinned (OpenSpec.ofChange gaussPartsSpec)

/-- ITS FALSE NEIGHBOUR: 'it returns false'. Refute it at one input. -/
def gaussPartsWrong : ChangeSpec := { name := "gaussParts", fn := fun _ => fun
  | [d1, d2] => { results := [.lit (.bool false)], args := [d1, d2] }
  | _ => none }
def GaussPartsWrongFalsely : Prop := gaussPartsRow.holds Tryd.pinned (OpenSpec.ofChange gaussPartsWrong)

/-- 'hindcastlaw02.GaussNorms': WHATEVER THE INPUT: true; the input reads as it did. -/
def gaussNormsSpec : ChangeSpec := { name := "gaussNorms", fn := fun _ => fun
  | [d] => { results := [.lit (.bool true)], args := [d] }
  | _ => none }
def gaussNormsRow : OpenClaim := { program := "ytoagnjnkgecmkaadoor", sum := "3ebaa24bbe4fbf64e3c508d3f616a052cfe80be26b700012b14cadc708ccf4cb", func := "hindcast/hindcastlaw02.GaussNorms", spec := "gaussNorms", inPlace := ["internal/bytealg.IndexByteString", "internal/bytealg.IndexString"], named := ["unicode/utf8.first", "unicode/utf8.acceptRanges", "internal/bytealg.MaxLen"], apart := false, laid := [("unicode/utf8.acceptRanges", laid_unicode_utf8_acceptRanges), ("unicode/utf8.first", laid_unicode_utf8_first)] }
def GaussNormsSaid : Prop := gaussNormsRow.holds Tryd.pinned (OpenSpec.ofChange gaussNormsSpec)

/-- ITS FALSE NEIGHBOUR: 'it returns false'. Refute it at one input. -/
def gaussNormsWrong : ChangeSpec := { name := "gaussNorms", fn := fun _ => fun
  | [d] => { results := [.lit (.bool false)], args := [d] }
  | _ => none }
def GaussNormsWrongFalsely : Prop := gaussNormsRow.holds Tryd.pinned (OpenSpec.ofChange gaussNormsWrong)

/-- 'hindcastlaw02.GaussSums': WHATEVER THE INPUT: true; the input reads as it did. -/
def gaussSumsSpec : ChangeSpec := { name := "gaussSums", fn := fun _ => fun
  | [d1, d2] => { results := [.lit (.bool true)], args := [d1, d2] }
  | _ => none }
def gaussSumsRow : OpenClaim := { program := "ytoagnjnkgecmkaadoor", sum := "3ebaa24bbe4fbf64e3c508d3f616a052cfe80be26b700012b14cadc708ccf4cb", func := "hindcast/hindcastlaw02.GaussSums", spec := "gaussSums", inPlace := ["internal/bytealg.IndexByteString", "internal/bytealg.IndexString"], named := ["unicode/utf8.first", "unicode/utf8.acceptRanges", "internal/bytealg.MaxLen"], apart := false, laid := [("unicode/utf8.acceptRanges", laid_unicode_utf8_acceptRanges), ("unicode/utf8.first", laid_unicode_utf8_first)] }
def GaussSumsSaid : Prop := gaussSumsRow.holds Tryd.pinned (OpenSpec.ofChange gaussSumsSpec)

/-- ITS FALSE NEIGHBOUR: 'it returns false'. Refute it at one input. -/
def gaussSumsWrong : ChangeSpec := { name := "gaussSums", fn := fun _ => fun
  | [d1, d2] => { results := [.lit (.bool false)], args := [d1, d2] }
  | _ => none }
def GaussSumsWrongFalsely : Prop := gaussSumsRow.holds Tryd.pinned (OpenSpec.ofChange gaussSumsWrong)

/-- 'hindcastlaw02.GaussTexts': WHATEVER THE INPUT: true; the input reads as it did. -/
def gaussTextsSpec : ChangeSpec := { name := "gaussTexts", fn := fun _ => fun
  | [d] => { results := [.lit (.bool true)], args := [d] }
  | _ => none }
def gaussTextsRow : OpenClaim := { program := "ytoagnjnkgecmkaadoor", sum := "3ebaa24bbe4fbf64e3c508d3f616a052cfe80be26b700012b14cadc708ccf4cb", func := "hindcast/hindcastlaw02.GaussTexts", spec := "gaussTexts", inPlace := ["internal/bytealg.IndexByteString", "internal/bytealg.IndexString"], named := ["unicode/utf8.first", "unicode/utf8.acceptRanges", "internal/bytealg.MaxLen"], apart := false, laid := [("unicode/utf8.acceptRanges", laid_unicode_utf8_acceptRanges), ("unicode/utf8.first", laid_unicode_utf8_first)] }
def GaussTextsSaid : Prop := gaussTextsRow.holds Tryd.pinned (OpenSpec.ofChange gaussTextsSpec)

/-- ITS FALSE NEIGHBOUR: 'it returns false'. Refute it at one input. -/
def gaussTextsWrong : ChangeSpec := { name := "gaussTexts", fn := fun _ => fun
  | [d] => { results := [.lit (.bool false)], args := [d] }
  | _ => none }
def GaussTextsWrongFalsely : Prop := gaussTextsRow.holds Tryd.pinned (OpenSpec.ofChange gaussTextsWrong)

/-- 'hindcastlaw02.GaussReads': WHATEVER THE INPUT: true; the input reads as it did. -/
def gaussReadsSpec : ChangeSpec := { name := "gaussReads", fn := fun _ => fun
  | [d] => { results := [.lit (.bool true)], args := [d] }
  | _ => none }
def gaussReadsRow : OpenClaim := { program := "ytoagnjnkgecmkaadoor", sum := "3ebaa24bbe4fbf64e3c508d3f616a052cfe80be26b700012b14cadc708ccf4cb", func := "hindcast/hindcastlaw02.GaussReads", spec := "gaussReads", inPlace := ["internal/bytealg.IndexByteString", "internal/bytealg.IndexString"], named := ["unicode/utf8.first", "unicode/utf8.acceptRanges", "internal/bytealg.MaxLen"], apart := false, laid := [("unicode/utf8.acceptRanges", laid_unicode_utf8_acceptRanges), ("unicode/utf8.first", laid_unicode_utf8_first)] }
def GaussReadsSaid : Prop := gaussReadsRow.holds Tryd.pinned (OpenSpec.ofChange gaussReadsSpec)

/-- ITS FALSE NEIGHBOUR: 'it returns false'. Refute it at one input. -/
def gaussReadsWrong : ChangeSpec := { name := "gaussReads", fn := fun _ => fun
  | [d] => { results := [.lit (.bool false)], args := [d] }
  | _ => none }
def GaussReadsWrongFalsely : Prop := gaussReadsRow.holds Tryd.pinned (OpenSpec.ofChange gaussReadsWrong)

/- THE SECOND FORM. 'bulk': how many values and letters a reading holds, each counted each time it is reached (what is shared counts as often as it is met; a slice's spare places count too). A statement '..UptoSaid' is the law's where the arguments, and the package variables that the reading takes, are together of bulk at most 1048576: NARROWER than '..Said'. Prove '..Said' where nothing that the law and all that it calls make is longer than what came in: it says more and counts as full. Else prove '..UptoSaid'. A law counts once. -/
mutual
def uptoBulk {H : Type} : DataW H → Nat
  | .lit (.string bytes) => bytes.length + 1
  | .lit _ => 1
  | .nil => 1
  | .ptr d => uptoBulk d + 1
  | .slice elems spare => uptoBulkAll elems + uptoBulkAll spare + 1
  | .agg parts => uptoBulkAll parts + 1
  | .iface _ d => uptoBulk d + 1
  | .map entries => uptoBulkEntries entries + 1
  | .held _ => 1
def uptoBulkAll {H : Type} : List (DataW H) → Nat
  | [] => 0
  | d :: r => uptoBulk d + uptoBulkAll r
def uptoBulkEntries {H : Type} : List (Lit × DataW H) → Nat
  | [] => 0
  | x :: r => uptoBulkEntry x + uptoBulkEntries r
def uptoBulkEntry {H : Type} : Lit × DataW H → Nat
  | (.string bytes, d) => bytes.length + uptoBulk d + 1
  | (_, d) => uptoBulk d + 1
 end
def uptoSmall : (H : Type) → List (DataW H) → Bool := fun _ ds => decide (uptoBulkAll ds ≤ 1048576)
def OpenSpec.upto (s : _root_.Go.ChangeSpec) : _root_.Go.OpenSpec := { _root_.Go.OpenSpec.ofChange s with cond := some uptoSmall }

/-- 'hindcastlaw02.GaussProducts', WHERE WHAT IT READS IS OF BULK AT MOST 1048576: true; the input reads as it did. -/
def gaussProductsUptoRow : OpenClaim := { program := "ytoagnjnkgecmkaadoor", sum := "3ebaa24bbe4fbf64e3c508d3f616a052cfe80be26b700012b14cadc708ccf4cb", func := "hindcast/hindcastlaw02.GaussProducts", spec := "gaussProducts", inPlace := ["internal/bytealg.IndexByteString", "internal/bytealg.IndexString"], named := ["unicode/utf8.first", "unicode/utf8.acceptRanges", "internal/bytealg.MaxLen"], apart := false, laid := [("unicode/utf8.acceptRanges", laid_unicode_utf8_acceptRanges), ("unicode/utf8.first", laid_unicode_utf8_first)], narrowed := true }
def GaussProductsUptoSaid : Prop := gaussProductsUptoRow.holds Tryd.pinned (OpenSpec.upto gaussProductsSpec)

/-- 'hindcastlaw02.GaussRing', WHERE WHAT IT READS IS OF BULK AT MOST 1048576: true; the input reads as it did. -/
def gaussRingUptoRow : OpenClaim := { program := "ytoagnjnkgecmkaadoor", sum := "3ebaa24bbe4fbf64e3c508d3f616a052cfe80be26b700012b14cadc708ccf4cb", func := "hindcast/hindcastlaw02.GaussRing", spec := "gaussRing", inPlace := ["internal/bytealg.IndexByteString", "internal/bytealg.IndexString"], named := ["unicode/utf8.first", "unicode/utf8.acceptRanges", "internal/bytealg.MaxLen"], apart := false, laid := [("unicode/utf8.acceptRanges", laid_unicode_utf8_acceptRanges), ("unicode/utf8.first", laid_unicode_utf8_first)], narrowed := true }
def GaussRingUptoSaid : Prop := gaussRingUptoRow.holds Tryd.pinned (OpenSpec.upto gaussRingSpec)

/-- 'hindcastlaw02.GaussParts', WHERE WHAT IT READS IS OF BULK AT MOST 1048576: true; the input reads as it did. -/
def gaussPartsUptoRow : OpenClaim := { program := "ytoagnjnkgecmkaadoor", sum := "3ebaa24bbe4fbf64e3c508d3f616a052cfe80be26b700012b14cadc708ccf4cb", func := "hindcast/hindcastlaw02.GaussParts", spec := "gaussParts", inPlace := ["internal/bytealg.IndexByteString", "internal/bytealg.IndexString"], named := ["unicode/utf8.first", "unicode/utf8.acceptRanges", "internal/bytealg.MaxLen"], apart := false, laid := [("unicode/utf8.acceptRanges", laid_unicode_utf8_acceptRanges), ("unicode/utf8.first", laid_unicode_utf8_first)], narrowed := true }
def GaussPartsUptoSaid : Prop := gaussPartsUptoRow.holds Tryd.pinned (OpenSpec.upto gaussPartsSpec)

/-- 'hindcastlaw02.GaussNorms', WHERE WHAT IT READS IS OF BULK AT MOST 1048576: true; the input reads as it did. -/
def gaussNormsUptoRow : OpenClaim := { program := "ytoagnjnkgecmkaadoor", sum := "3ebaa24bbe4fbf64e3c508d3f616a052cfe80be26b700012b14cadc708ccf4cb", func := "hindcast/hindcastlaw02.GaussNorms", spec := "gaussNorms", inPlace := ["internal/bytealg.IndexByteString", "internal/bytealg.IndexString"], named := ["unicode/utf8.first", "unicode/utf8.acceptRanges", "internal/bytealg.MaxLen"], apart := false, laid := [("unicode/utf8.acceptRanges", laid_unicode_utf8_acceptRanges), ("unicode/utf8.first", laid_unicode_utf8_first)], narrowed := true }
def GaussNormsUptoSaid : Prop := gaussNormsUptoRow.holds Tryd.pinned (OpenSpec.upto gaussNormsSpec)

/-- 'hindcastlaw02.GaussSums', WHERE WHAT IT READS IS OF BULK AT MOST 1048576: true; the input reads as it did. -/
def gaussSumsUptoRow : OpenClaim := { program := "ytoagnjnkgecmkaadoor", sum := "3ebaa24bbe4fbf64e3c508d3f616a052cfe80be26b700012b14cadc708ccf4cb", func := "hindcast/hindcastlaw02.GaussSums", spec := "gaussSums", inPlace := ["internal/bytealg.IndexByteString", "internal/bytealg.IndexString"], named := ["unicode/utf8.first", "unicode/utf8.acceptRanges", "internal/bytealg.MaxLen"], apart := false, laid := [("unicode/utf8.acceptRanges", laid_unicode_utf8_acceptRanges), ("unicode/utf8.first", laid_unicode_utf8_first)], narrowed := true }
def GaussSumsUptoSaid : Prop := gaussSumsUptoRow.holds Tryd.pinned (OpenSpec.upto gaussSumsSpec)

/-- 'hindcastlaw02.GaussTexts', WHERE WHAT IT READS IS OF BULK AT MOST 1048576: true; the input reads as it did. -/
def gaussTextsUptoRow : OpenClaim := { program := "ytoagnjnkgecmkaadoor", sum := "3ebaa24bbe4fbf64e3c508d3f616a052cfe80be26b700012b14cadc708ccf4cb", func := "hindcast/hindcastlaw02.GaussTexts", spec := "gaussTexts", inPlace := ["internal/bytealg.IndexByteString", "internal/bytealg.IndexString"], named := ["unicode/utf8.first", "unicode/utf8.acceptRanges", "internal/bytealg.MaxLen"], apart := false, laid := [("unicode/utf8.acceptRanges", laid_unicode_utf8_acceptRanges), ("unicode/utf8.first", laid_unicode_utf8_first)], narrowed := true }
def GaussTextsUptoSaid : Prop := gaussTextsUptoRow.holds Tryd.pinned (OpenSpec.upto gaussTextsSpec)

/-- 'hindcastlaw02.GaussReads', WHERE WHAT IT READS IS OF BULK AT MOST 1048576: true; the input reads as it did. -/
def gaussReadsUptoRow : OpenClaim := { program := "ytoagnjnkgecmkaadoor", sum := "3ebaa24bbe4fbf64e3c508d3f616a052cfe80be26b700012b14cadc708ccf4cb", func := "hindcast/hindcastlaw02.GaussReads", spec := "gaussReads", inPlace := ["internal/bytealg.IndexByteString", "internal/bytealg.IndexString"], named := ["unicode/utf8.first", "unicode/utf8.acceptRanges", "internal/bytealg.MaxLen"], apart := false, laid := [("unicode/utf8.acceptRanges", laid_unicode_utf8_acceptRanges), ("unicode/utf8.first", laid_unicode_utf8_first)], narrowed := true }
def GaussReadsUptoSaid : Prop := gaussReadsUptoRow.holds Tryd.pinned (OpenSpec.upto gaussReadsSpec)

end Rows
end Go.Proofs.YtoagnjnkgecmkaaDoor
