/- The walks of the exact laws of TimingValid and WaitOf: true for all arguments. No condition. -/
import Derived.Test.YtaoecdpmcedlbaaBase
namespace Go.Proofs.Ytaoecdpmcedlbaa
open Go.RowKit
theorem walkExactTimingValid (m s : Int) (w : World) (_ : (Lit.int .i64 m).wf = true) (_ : (Lit.int .i64 s).wf = true) :
    Calls Try.prog 3 #[.agg #[.int .i64 m, .int .i64 s]] w fun e w' => e = .returned (.bool true) ∧ Below w.heap.size w w' := by
  have g0 : Below w.heap.size w (w.alloc (.cells #[.int .i64 m, .int .i64 s] 23)) := (Below.refl _ _).alloc (Nat.le_refl _) _
  cases h : tv m s
  all_goals
    go_enter Try.func3, Try.ntmps3
    go_wp2_with fail
    refine (c_toTiming _ _ _).mono ?_; rintro e w1 ⟨rfl, hb1⟩
    have z1 := hb1.size; simp only [World.size_alloc] at z1
    go_wp2_with fail
    refine (s_TimingValid _ _ _).mono ?_; rintro e w2 ⟨rfl, hb2⟩
    have h2 := hb1.trans (hb2.mono (by simp only [World.size_alloc]; omega)); clear hb2
    have z2 := h2.size; simp only [World.size_alloc] at z2
    have c0 := h2.cell (p := ⟨w.heap.size, 0, none⟩) (by simp)
    have c1 := h2.cell (p := ⟨w.heap.size, 1, none⟩) (by simp)
    go_wp2_with fail
    refine (c_toTiming _ _ _).mono ?_; rintro e w3 ⟨rfl, hb3⟩
    have h3 := h2.trans (hb3.mono (by simp only [World.size_alloc]; omega)); clear hb3
    have z3 := h3.size; simp only [World.size_alloc] at z3
    go_wp2_with fail
    refine (c_TimingValid _ _ _).mono ?_; rintro e w4 ⟨rfl, hb4⟩
    have h4 := h3.trans (hb4.mono (by simp only [World.size_alloc]; omega)); clear hb4
    go_wp2_with fail
    go_ret
    exact ⟨rfl, g0.trans (h4.mono (by simp))⟩
end Go.Proofs.Ytaoecdpmcedlbaa
