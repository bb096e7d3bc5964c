/- Ranges of numbers that are handed in. -/
import Derived.Test.YtbgigkfdenkfiaaDoorCmdJ
namespace Go.Proofs.YtbgigkfdenkfiaaDoor
open Go.RowKit
theorem u8_nonneg {n : Int} (h : (Lit.int .u8 n).wf = true) : 0 ≤ n := by
  simp [Lit.wf, IntKind.min, IntKind.signed] at h; exact h.1
theorem i64_lo {n : Int} (h : (Lit.int .i64 n).wf = true) : -9223372036854775808 ≤ n := by
  simp [Lit.wf, IntKind.min, IntKind.signed, IntKind.bits] at h; omega
theorem i64_hi {n : Int} (h : (Lit.int .i64 n).wf = true) : n ≤ 9223372036854775807 := by
  simp [Lit.wf, IntKind.max, IntKind.signed, IntKind.bits] at h; omega
end Go.Proofs.YtbgigkfdenkfiaaDoor
