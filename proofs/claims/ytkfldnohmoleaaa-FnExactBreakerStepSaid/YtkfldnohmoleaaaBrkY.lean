/- The walk of the exact law of BreakerStep: true for all arguments. No condition. -/
import Derived.Test.YtkfldnohmoleaaaBrkS
namespace Go.Proofs.Ytkfldnohmoleaaa
open Go.RowKit
set_option maxHeartbeats 400000 in
theorem walkExactBreakerStep (m s now : Int) (good : Bool) (most pause : Int) (w : World) (_ : (Lit.int .i64 m).wf = true) (_ : (Lit.int .i64 s).wf = true) (_ : (Lit.int .i64 now).wf = true) (_ : (Lit.int .i64 most).wf = true) (_ : (Lit.int .i64 pause).wf = true) :
    Calls Try.prog 7 #[.agg #[.int .i64 m, .int .i64 s], .int .i64 now, .bool good, .int .i64 most, .int .i64 pause] w fun e w' => e = .returned (.bool true) ∧ Below w.heap.size w w' := by
  have g0 : Below w.heap.size w (w.alloc (.cells #[.int .i64 m, .int .i64 s] 23)) := (Below.refl _ _).alloc (Nat.le_refl _) _
  go_enter Try.func7, Try.ntmps7
  go_wp2_with fail
  refine (c_toBreaker _ _ _).mono ?_; rintro e w1 ⟨rfl, hb1⟩
  have z1 := hb1.size; simp only [World.size_alloc] at z1
  go_wp2_with fail
  refine (s_BreakerStep _ _ _ _ _ _ _).mono ?_; rintro e w2 ⟨rfl, hb2⟩
  have h2 := Below.step hb1 hb2 (by simp only [World.size_alloc]; omega); clear hb2
  have z2 := h2.size; simp only [World.size_alloc] at z2
  have c0 : w2.cell? ⟨w.heap.size, 0, none⟩ = some (.int .i64 m) := (h2.cell (p := ⟨w.heap.size, 0, none⟩) (by simp)).trans (by simp [go_sem])
  have c1 : w2.cell? ⟨w.heap.size, 1, none⟩ = some (.int .i64 s) := (h2.cell (p := ⟨w.heap.size, 1, none⟩) (by simp)).trans (by simp [go_sem])
  have d0 := keep c0
  have d1 := keep c1
  go_wp2_with fail
  refine (c_toBreaker _ _ _).mono ?_; rintro e w3 ⟨rfl, hb3⟩
  have z3 := hb3.size; simp only [World.size_alloc] at z3
  go_wp2_with fail
  refine (c_BreakerStep _ _ _ _ _ _ _).mono ?_; rintro e w4 ⟨rfl, hb4⟩
  have h4 := Below.step hb3 hb4 (by simp only [World.size_alloc]; omega); clear hb4
  have z4 := h4.size; simp only [World.size_alloc] at z4
  have e0 : w4.cell? ⟨w2.heap.size, 0, none⟩ = some (.int .i64 (stepF m s now good most pause)) := (h4.cell (p := ⟨w2.heap.size, 0, none⟩) (by simp)).trans (by simp [go_sem])
  have e1 : w4.cell? ⟨w2.heap.size, 1, none⟩ = some (.int .i64 (stepU m s now good most pause)) := (h4.cell (p := ⟨w2.heap.size, 1, none⟩) (by simp)).trans (by simp [go_sem])
  have k0 := keep e0
  have k1 := keep e1
  clear e0 e1
  go_wp2_with fail
  refine (c_eqBreaker _ _ _).mono ?_; rintro e w5 ⟨rfl, hb5⟩
  go_wp2_with fail
  go_ret
  refine ⟨rfl, ?_⟩
  have q2 : Below w.heap.size w w2 := g0.trans (h2.mono (by simp))
  have q3 : Below w.heap.size w w4 := (q2.alloc (by omega) _).trans (h4.mono (by simp only [World.size_alloc]; omega))
  exact (q3.alloc (by omega) _).trans (hb5.mono (by simp only [World.size_alloc]; omega))
end Go.Proofs.Ytkfldnohmoleaaa
