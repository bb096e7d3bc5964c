/- The gauss seat, part LT: the library's tables, out of the row's condition. -/
import Derived.Test.YtoagnjnkgecmkaaDoorGaussLR
import Derived.Test.YtoagnjnkgecmkaaDoorLaid
import Derived.Lib.LaidU8
namespace Go.Proofs.YtoagnjnkgecmkaaDoor
open Go.RowKit
theorem tabs_of {W : World} (hL : laidMetH Tryd.prog Rows.gaussReadsRow.laid W) : Tabs W := by
  have hL' : laidMet Tryd.prog Rows.gaussReadsRow.laid W := hL
  have h3 : Lib.VarReads Tryd.prog W "unicode/utf8.first" Rows.laid_unicode_utf8_first := Lib.laidMet.reads hL' (.tail _ (.head _))
  have h4 : Lib.VarReads Tryd.prog W "unicode/utf8.acceptRanges" Rows.laid_unicode_utf8_acceptRanges := Lib.laidMet.reads hL' (.head _)
  rw [show Rows.laid_unicode_utf8_first = Lib.firstData by kernel_rfl] at h3
  rw [show (Rows.laid_unicode_utf8_acceptRanges : DataW Unit) = Lib.acceptData by kernel_rfl] at h4
  exact utf8Tabs_of_reads (ρ := Tryd.lays260_ren) Tryd.lays260 ⟨by kernel_rfl, by kernel_rfl, by kernel_rfl, by kernel_rfl, by kernel_rfl, by kernel_rfl, by kernel_rfl⟩ h3 h4
theorem law_reads_bytes (x : ByteArray) (w : World) (hT : Tabs w) : Calls Tryd.prog 9 #[.string x] w fun e w' => e = .returned (.bool true) ∧ Below w.heap.size w w' := by
  have h := law_reads x.data.toList w hT
  have e : B x.data.toList = x := by simp [B]
  rwa [e] at h
end Go.Proofs.YtoagnjnkgecmkaaDoor
