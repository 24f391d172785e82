/- Contracts of SplitCount, of the program and of the reference. No condition but lists of at most 2^20 numbers. -/
import Derived.Test.YtdpmlkigmadajaaSplit
namespace Go.Proofs.Ytdpmlkigmadajaa
open Go.RowKit
/-- How many of the first k keys are among the share. -/
def cntTo (xs : List Int) (s : Int) : Nat → Int
  | 0 => 0
  | k + 1 => cntTo xs s k + if splitB (xs.getD k 0) s then 1 else 0
theorem cntTo_bd (xs : List Int) (s : Int) : ∀ k, 0 ≤ cntTo xs s k ∧ cntTo xs s k ≤ k
  | 0 => by simp [cntTo]
  | k + 1 => by have := cntTo_bd xs s k; simp only [cntTo]; split <;> omega
def cntV (xs : List Int) (s : Int) : Int := if decide (xs.length ≤ 60) && inB s 0 100 && keyOk xs then cntTo xs s xs.length else -1
theorem keyOk_not {xs : List Int} {k : Nat} (hk : k < xs.length) (h : inB (xs.getD k 0) 0 1000002 = false) : keyOk xs = false := all_not hk h
theorem keyOk_of {xs : List Int} (h : ∀ j, j < xs.length → inB (xs.getD j 0) 0 1000002 = true) : keyOk xs = true := all_of h
end Go.Proofs.Ytdpmlkigmadajaa
