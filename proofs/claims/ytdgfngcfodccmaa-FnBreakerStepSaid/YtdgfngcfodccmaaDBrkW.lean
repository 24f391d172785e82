/- The walk of the law FnBreakerAllows: true for all bytes. No condition. -/
import Derived.Test.YtdgfngcfodccmaaDBrkV
namespace Go.Proofs.Ytdgfngcfodccmaa
open Go.RowKit
theorem allows_zero (now : Int) : allowsB 0 0 now = inB now 0 100000 := by
  simp only [allowsB, bv_zero, Bool.true_and]
  cases h : inB now 0 100000
  · rfl
  · have := inB_true.1 h
    simp [this.1]
theorem allows_next {f u now : Int} (h : allowsB f u now = true) : now = 100000 ∨ allowsB f u (now + 1) = true := by
  simp only [allowsB, Bool.and_eq_true, inB_true, decide_eq_true_eq] at h ⊢
  obtain ⟨⟨h1, h2, h3⟩, h4⟩ := h
  by_cases hn : now = 100000
  · exact .inl hn
  · exact .inr ⟨⟨h1, by omega, by omega⟩, by omega⟩
theorem allows_bv {f u now : Int} (h : allowsB f u now = true) : bv f u = true ∧ inB now 0 100000 = true := by
  simp only [allowsB, Bool.and_eq_true] at h
  exact h.1
end Go.Proofs.Ytdgfngcfodccmaa
