/- The draw of a share. No condition. -/
import Derived.Test.YtdpmlkigmadajaaDLaw
namespace Go.Proofs.Ytdpmlkigmadajaa
open Go.RowKit
variable {D : Nat}
/-- A number in a range is drawn; besides the reader nothing that was there has turned. -/
def RetI (D : Nat) (w : World) (g p m : Nat) (lo hi : Int) (e : Ending) (w' : World) : Prop :=
  ∃ k : Int, e = .returned (.int .i64 k) ∧ lo ≤ k ∧ k ≤ hi ∧ (∃ p', p' ≤ p + m ∧ Rd D w' g p') ∧ w.grownBy w' (some g)
end Go.Proofs.Ytdpmlkigmadajaa
