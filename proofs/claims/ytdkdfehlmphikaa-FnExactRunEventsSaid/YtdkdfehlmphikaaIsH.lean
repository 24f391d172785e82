/- What a walk is told of a pool that came in. No condition. -/
import Derived.Test.YtdkdfehlmphikaaHost
namespace Go.Proofs.Ytdkdfehlmphikaa
open Go.RowKit
/-- What the walk is told of a pool that came in. -/
def IsHosts (w : World) (a : Option Addr) (n cap : Nat) (hs : List H3) : Prop := hs.length = n ∧ n ≤ cap ∧ cap ≤ maxLen ∧ Hosts w a hs
end Go.Proofs.Ytdkdfehlmphikaa
