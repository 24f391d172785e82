/- The verifier's toFlow, eqFlow. No condition. -/
import Derived.Test.YtdkdfehlmphikaaFlo
import Derived.Test.YtdkdfehlmphikaaNew
namespace Go.Proofs.Ytdkdfehlmphikaa
open Go.RowKit
theorem c_toFlow (a b c d k : Int) (w : World) : Calls Try.prog 26 #[.agg #[.int .i64 a, .int .i64 b, .int .i64 c, .int .i64 d, .int .i64 k]] w fun e w' => e = .returned (.agg #[.int .i64 a, .int .i64 b, .int .i64 c, .int .i64 d, .int .i64 k]) ∧ Below w.heap.size w w' := by
  go_enter Try.func26, Try.ntmps26
  go_wp2
  go_returns
  exact ⟨rfl, by go_grown⟩
theorem c_eqFlow (a b c d k : Int) (w : World) : Calls Try.prog 100 #[.agg #[.int .i64 a, .int .i64 b, .int .i64 c, .int .i64 d, .int .i64 k], .agg #[.int .i64 a, .int .i64 b, .int .i64 c, .int .i64 d, .int .i64 k]] w fun e w' => e = .returned (.bool true) ∧ Below w.heap.size w w' := by
  go_enter Try.func100, Try.ntmps100
  go_wp2
  go_ret
  exact ⟨rfl, by go_grown⟩
end Go.Proofs.Ytdkdfehlmphikaa
