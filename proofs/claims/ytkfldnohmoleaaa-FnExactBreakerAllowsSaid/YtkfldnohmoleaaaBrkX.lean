/- The walks of the exact laws of BreakerValid and BreakerAllows: true for all arguments. No condition. -/
import Derived.Test.YtkfldnohmoleaaaBrk
namespace Go.Proofs.Ytkfldnohmoleaaa
open Go.RowKit
theorem walkExactBreakerValid (m s : Int) (w : World) (_ : (Lit.int .i64 m).wf = true) (_ : (Lit.int .i64 s).wf = true) :
    Calls Try.prog 3 #[.agg #[.int .i64 m, .int .i64 s]] w fun e w' => e = .returned (.bool true) ∧ Below w.heap.size w w' := by
  have g0 : Below w.heap.size w (w.alloc (.cells #[.int .i64 m, .int .i64 s] 23)) := (Below.refl _ _).alloc (Nat.le_refl _) _
  cases h : bv m s
  all_goals
    go_enter Try.func3, Try.ntmps3
    go_wp2_with fail
    refine (c_toBreaker _ _ _).mono ?_; rintro e w1 ⟨rfl, hb1⟩
    have z1 := hb1.size; simp only [World.size_alloc] at z1
    go_wp2_with fail
    refine (s_BreakerValid _ _ _).mono ?_; rintro e w2 ⟨rfl, hb2⟩
    have h2 := Below.step hb1 hb2 (by simp only [World.size_alloc]; omega); clear hb2
    have z2 := h2.size; simp only [World.size_alloc] at z2
    have c0 := h2.cell (p := ⟨w.heap.size, 0, none⟩) (by simp)
    have c1 := h2.cell (p := ⟨w.heap.size, 1, none⟩) (by simp)
    go_wp2_with fail
    refine (c_toBreaker _ _ _).mono ?_; rintro e w3 ⟨rfl, hb3⟩
    have h3 := Below.step h2 hb3 (by simp only [World.size_alloc]; omega); clear hb3
    have z3 := h3.size; simp only [World.size_alloc] at z3
    go_wp2_with fail
    refine (c_BreakerValid _ _ _).mono ?_; rintro e w4 ⟨rfl, hb4⟩
    have h4 := Below.step h3 hb4 (by simp only [World.size_alloc]; omega); clear hb4
    go_wp2_with fail
    go_ret
    exact ⟨rfl, g0.trans (h4.mono (by simp))⟩
theorem walkExactBreakerAllows (m s now : Int) (w : World) (_ : (Lit.int .i64 m).wf = true) (_ : (Lit.int .i64 s).wf = true) (_ : (Lit.int .i64 now).wf = true) :
    Calls Try.prog 4 #[.agg #[.int .i64 m, .int .i64 s], .int .i64 now] w fun e w' => e = .returned (.bool true) ∧ Below w.heap.size w w' := by
  have g0 : Below w.heap.size w (w.alloc (.cells #[.int .i64 m, .int .i64 s] 23)) := (Below.refl _ _).alloc (Nat.le_refl _) _
  cases h : allowsB m s now
  all_goals
    go_enter Try.func4, Try.ntmps4
    go_wp2_with fail
    refine (c_toBreaker _ _ _).mono ?_; rintro e w1 ⟨rfl, hb1⟩
    have z1 := hb1.size; simp only [World.size_alloc] at z1
    go_wp2_with fail
    refine (s_BreakerAllows _ _ _ _).mono ?_; rintro e w2 ⟨rfl, hb2⟩
    have h2 := Below.step hb1 hb2 (by simp only [World.size_alloc]; omega); clear hb2
    have z2 := h2.size; simp only [World.size_alloc] at z2
    have c0 := h2.cell (p := ⟨w.heap.size, 0, none⟩) (by simp)
    have c1 := h2.cell (p := ⟨w.heap.size, 1, none⟩) (by simp)
    go_wp2_with fail
    refine (c_toBreaker _ _ _).mono ?_; rintro e w3 ⟨rfl, hb3⟩
    have h3 := Below.step h2 hb3 (by simp only [World.size_alloc]; omega); clear hb3
    have z3 := h3.size; simp only [World.size_alloc] at z3
    go_wp2_with fail
    refine (c_BreakerAllows _ _ _ _).mono ?_; rintro e w4 ⟨rfl, hb4⟩
    have h4 := Below.step h3 hb4 (by simp only [World.size_alloc]; omega); clear hb4
    go_wp2_with fail
    go_ret
    exact ⟨rfl, g0.trans (h4.mono (by simp))⟩
end Go.Proofs.Ytkfldnohmoleaaa
