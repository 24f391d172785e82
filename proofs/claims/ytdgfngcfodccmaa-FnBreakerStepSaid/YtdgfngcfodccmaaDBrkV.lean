/- The walk of the law FnBreakerValid: true for all bytes. No condition. -/
import Derived.Test.YtdgfngcfodccmaaDBrkL
import Derived.Test.YtdgfngcfodccmaaBrk
namespace Go.Proofs.Ytdgfngcfodccmaa
open Go.RowKit
theorem bv_neg (s : Int) : bv (-1) s = false := by
  have h : inB (-1) 0 100 = false := by decide
  simp [bv, h]
theorem bv_zero : bv 0 0 = true := by decide
end Go.Proofs.Ytdgfngcfodccmaa
