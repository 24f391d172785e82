/- Lists of ints as rows: toIntS, markIntS. No condition but the bounds that each states. -/
import Derived.Test.YtalalapjanckdaaRow
import Derived.Test.YtalalapjanckdaaNew
namespace Go.Proofs.Ytalalapjanckdaa
open Go.RowKit
theorem r_toIntS (a : Option Addr) (n cap : Nat) (xs : List Int) (w : World) (hxs : xs.length = n) (hn : n ≤ 1048576) (h : Ints w a xs) :
    Calls Try.prog 45 #[.slice a n cap] w (RetRow w 3 1 n (xs.map (Value.int .i64))) :=
  (c_toIntS a n cap xs w hxs hn h).mono fun _ _ ⟨g, h1, h2, h3⟩ => ⟨some ⟨g, 0, none⟩, n, h1, h2, h3⟩
theorem r_markIntS (base n : Nat) (a : Option Addr) (cap : Nat) (k : Int) (xs : List Int) (w : World) (hn : n ≤ 1048576) (hk0 : 0 ≤ k) (hk : k ≤ 1000000000) (h : w.ownsRow base 3 1 (.slice a n cap) n (xs.map (Value.int .i64))) :
    Calls Try.prog 39 #[.slice a n cap, .int .i64 k] w fun e w' => e = .returned (.int .i64 (k + (n : Int))) ∧
      w'.ownsRow base 3 1 (.slice a n cap) n ((upFrom k n).map (Value.int .i64)) ∧ w.grownBy w' (Value.slice a n cap).ownBlock := c_markV base n a cap k xs w hn hk0 hk h
end Go.Proofs.Ytalalapjanckdaa
