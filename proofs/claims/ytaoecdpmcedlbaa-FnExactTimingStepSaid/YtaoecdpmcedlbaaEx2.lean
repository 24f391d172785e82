/- The walks of the exact laws of WaitOf and TimingStep: true for all arguments. No condition. -/
import Derived.Test.YtaoecdpmcedlbaaStep
namespace Go.Proofs.Ytaoecdpmcedlbaa
open Go.RowKit
theorem walkExactWaitOf (m s : Int) (w : World) (_ : (Lit.int .i64 m).wf = true) (_ : (Lit.int .i64 s).wf = true) :
    Calls Try.prog 4 #[.agg #[.int .i64 m, .int .i64 s]] w fun e w' => e = .returned (.bool true) ∧ Below w.heap.size w w' := by
  have g0 : Below w.heap.size w (w.alloc (.cells #[.int .i64 m, .int .i64 s] 23)) := (Below.refl _ _).alloc (Nat.le_refl _) _
  go_enter Try.func4, Try.ntmps4
  go_wp2_with fail
  refine (c_toTiming _ _ _).mono ?_; rintro e w1 ⟨rfl, hb1⟩
  have z1 := hb1.size; simp only [World.size_alloc] at z1
  go_wp2_with fail
  refine (s_WaitOf _ _ _).mono ?_; rintro e w2 ⟨rfl, hb2⟩
  have h2 := Below.step hb1 hb2 (by simp only [World.size_alloc]; omega); clear hb2
  have z2 := h2.size; simp only [World.size_alloc] at z2
  have c0 := h2.cell (p := ⟨w.heap.size, 0, none⟩) (by simp)
  have c1 := h2.cell (p := ⟨w.heap.size, 1, none⟩) (by simp)
  go_wp2_with fail
  refine (c_toTiming _ _ _).mono ?_; rintro e w3 ⟨rfl, hb3⟩
  have h3 := Below.step h2 hb3 (by simp only [World.size_alloc]; omega); clear hb3
  have z3 := h3.size; simp only [World.size_alloc] at z3
  go_wp2_with fail
  refine (c_WaitOf _ _ _).mono ?_; rintro e w4 ⟨rfl, hb4⟩
  have h4 := Below.step h3 hb4 (by simp only [World.size_alloc]; omega); clear hb4
  go_wp2_with fail
  go_ret
  exact ⟨rfl, g0.trans (h4.mono (by simp))⟩

set_option maxHeartbeats 400000 in
theorem walkExactTimingStep (m s k : Int) (w : World) (_ : (Lit.int .i64 m).wf = true) (_ : (Lit.int .i64 s).wf = true) (_ : (Lit.int .i64 k).wf = true) :
    Calls Try.prog 6 #[.agg #[.int .i64 m, .int .i64 s], .int .i64 k] w fun e w' => e = .returned (.bool true) ∧ Below w.heap.size w w' := by
  have g0 : Below w.heap.size w (w.alloc (.cells #[.int .i64 m, .int .i64 s] 23)) := (Below.refl _ _).alloc (Nat.le_refl _) _
  go_enter Try.func6, Try.ntmps6
  go_wp2_with fail
  refine (c_toTiming _ _ _).mono ?_; rintro e w1 ⟨rfl, hb1⟩
  have z1 := hb1.size; simp only [World.size_alloc] at z1
  go_wp2_with fail
  refine (s_TimingStep _ _ _ _).mono ?_; rintro e w2 ⟨rfl, hb2⟩
  have h2 := Below.step hb1 hb2 (by simp only [World.size_alloc]; omega); clear hb2
  have z2 := h2.size; simp only [World.size_alloc] at z2
  have c0 : w2.cell? ⟨w.heap.size, 0, none⟩ = some (.int .i64 m) := (h2.cell (p := ⟨w.heap.size, 0, none⟩) (by simp)).trans (by simp [go_sem])
  have c1 : w2.cell? ⟨w.heap.size, 1, none⟩ = some (.int .i64 s) := (h2.cell (p := ⟨w.heap.size, 1, none⟩) (by simp)).trans (by simp [go_sem])
  have d0 : ∀ o, (w2.alloc o).cell? ⟨w.heap.size, 0, none⟩ = some (.int .i64 m) := fun o => (World.cell?_alloc_lt _ _ _ (by simp only []; omega)).trans c0
  have d1 : ∀ o, (w2.alloc o).cell? ⟨w.heap.size, 1, none⟩ = some (.int .i64 s) := fun o => (World.cell?_alloc_lt _ _ _ (by simp only []; omega)).trans c1
  go_wp2_with fail
  refine (c_toTiming _ _ _).mono ?_; rintro e w3 ⟨rfl, hb3⟩
  have z3 := hb3.size; simp only [World.size_alloc] at z3
  go_wp2_with fail
  refine (c_TimingStep _ _ _ _).mono ?_; rintro e w4 ⟨rfl, hb4⟩
  have h4 := Below.step hb3 hb4 (by simp only [World.size_alloc]; omega); clear hb4
  obtain ⟨hc4, hf4, z4⟩ := bcell h4
  simp only [World.size_alloc] at z4
  have e0 : w4.cell? ⟨w2.heap.size, 0, none⟩ = some (.int .i64 (stepM m s k)) := (h4.cell (p := ⟨w2.heap.size, 0, none⟩) (by simp)).trans (by simp [go_sem])
  have e1 : w4.cell? ⟨w2.heap.size, 1, none⟩ = some (.int .i64 (stepS m s k)) := (h4.cell (p := ⟨w2.heap.size, 1, none⟩) (by simp)).trans (by simp [go_sem])
  have k0 := keep e0
  have k1 := keep e1
  clear hc4 hf4 e0 e1
  go_wp2_with fail
  refine (c_eqTiming _ _ _).mono ?_; rintro e w5 ⟨rfl, hb5⟩
  go_wp2_with fail
  go_ret
  refine ⟨rfl, ?_⟩
  have q2 : Below w.heap.size w w2 := g0.trans (h2.mono (by simp))
  have q3 : Below w.heap.size w w4 := (q2.alloc (by omega) _).trans (h4.mono (by simp only [World.size_alloc]; omega))
  exact (q3.alloc (by omega) _).trans (hb5.mono (by simp only [World.size_alloc]; omega))
end Go.Proofs.Ytaoecdpmcedlbaa
