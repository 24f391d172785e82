/- Lists of ints as rows: toIntS, markIntS. No condition but the bounds that each states. -/
import Derived.Test.YtdkdfehlmphikaaRow
import Derived.Test.YtdkdfehlmphikaaNew
namespace Go.Proofs.Ytdkdfehlmphikaa
open Go.RowKit
theorem r_markIntS (base n : Nat) (a : Option Addr) (cap : Nat) (k : Int) (xs : List Int) (w : World) (hn : n ≤ 1048576) (hk0 : 0 ≤ k) (hk : k ≤ 1000000000) (h : w.ownsRow base 3 1 (.slice a n cap) n (xs.map (Value.int .i64))) :
    Calls Try.prog 38 #[.slice a n cap, .int .i64 k] w fun e w' => e = .returned (.int .i64 (k + (n : Int))) ∧
      w'.ownsRow base 3 1 (.slice a n cap) n ((upFrom k n).map (Value.int .i64)) ∧ w.grownBy w' (Value.slice a n cap).ownBlock := c_markV base n a cap k xs w hn hk0 hk h
end Go.Proofs.Ytdkdfehlmphikaa
