/- Contracts of HistRank, of the program and of the reference. No condition but lists of at most 2^20 numbers. -/
import Derived.Test.YtdgfngcfodccmaaHistA
namespace Go.Proofs.Ytdgfngcfodccmaa
open Go.RowKit
theorem hv_len {xs : List Int} (h : hv xs = true) : xs.length = 13 := by
  simp only [hv, Bool.and_eq_true, decide_eq_true_eq] at h; exact h.2
theorem hv_get {xs : List Int} (h : hv xs = true) {k : Nat} (hk : k < xs.length) : 0 ≤ xs.getD k 0 ∧ xs.getD k 0 ≤ 1000000 := by
  simp only [hv, Bool.and_eq_true] at h; exact all_get h.1 hk
/-- The sum of the first k counts. -/
def sumTo (xs : List Int) : Nat → Int
  | 0 => 0
  | k + 1 => sumTo xs k + xs.getD k 0
theorem sumTo_bd {xs : List Int} (h : hv xs = true) : ∀ k, k ≤ xs.length → 0 ≤ sumTo xs k ∧ sumTo xs k ≤ 1000000 * k
  | 0, _ => by simp [sumTo]
  | k + 1, hk => by
    have h1 := sumTo_bd h k (by omega)
    have h2 := hv_get h (k := k) (by omega)
    simp only [sumTo]; omega
/-- The first class from k on, at most f further ones, with the share. -/
def rankFrom (xs : List Int) (share all : Int) : Nat → Nat → Int
  | 0, _ => -1
  | f + 1, k => if share * all ≤ 100 * sumTo xs (k + 1) then (k : Int) else rankFrom xs share all f (k + 1)
def rankV (xs : List Int) (share : Int) : Int :=
  if hv xs && inB share 1 100 then (if 0 < sumTo xs 13 then rankFrom xs share (sumTo xs 13) 13 0 else -1) else -1
end Go.Proofs.Ytdgfngcfodccmaa
