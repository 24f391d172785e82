/- Numbers from k on, as cells. No program in sight but the seat's own name. -/
import Derived.Test.YtdkdfehlmphikaaMG
import Derived.Test.YtdkdfehlmphikaaMA
namespace Go.Proofs.Ytdkdfehlmphikaa
open Go.RowKit
theorem upF_get (k : Int) (n j : Nat) (h : j < n) : ((upFrom k n).map (Value.int .i64))[j]? = some (.int .i64 (k + (j : Int))) := by
  simp [upFrom, h]
theorem cells_eqU {C : List Value} {k : Int} {m : Nat} (hl : C.length = m) (h : ∀ j, j < m → C[j]? = some (.int .i64 (k + (j : Int)))) : C = (upFrom k m).map (Value.int .i64) := by
  apply List.ext_getElem?
  intro i
  by_cases hi : i < m
  · rw [h i hi, upF_get k m i hi]
  · rw [List.getElem?_eq_none (by omega), List.getElem?_eq_none (by simp [upFrom_len]; omega)]
end Go.Proofs.Ytdkdfehlmphikaa
