/- Contracts of BreakerValid, BreakerAllows and BreakerStep, of the program and of the reference; the walks of their exact laws. No condition. -/
import Derived.Test.YtdgfngcfodccmaaBox
namespace Go.Proofs.Ytdgfngcfodccmaa
open Go.RowKit
/-- A breaker is valid. -/
def bv (f u : Int) : Bool := inB f 0 100 && inB u 0 200000
def allowsB (f u now : Int) : Bool := bv f u && inB now 0 100000 && decide (u ≤ now)
def stepOk (f u now most pause : Int) : Bool := bv f u && inB now 0 100000 && inB most 1 100 && inB pause 1 100000
/-- The fails and the time after a call. -/
def stepF (f u now : Int) (good : Bool) (most pause : Int) : Int :=
  if stepOk f u now most pause then (if now < u then f else if good then 0 else min (f + 1) 100) else 0
def stepU (f u now : Int) (good : Bool) (most pause : Int) : Int :=
  if stepOk f u now most pause then (if now < u then u else if good then 0 else if most ≤ min (f + 1) 100 then now + pause else u) else 0
theorem bv_bd {f u : Int} (h : bv f u = true) : 0 ≤ f ∧ f ≤ 100 ∧ 0 ≤ u ∧ u ≤ 200000 := by
  simp only [bv, Bool.and_eq_true, inB_true] at h; omega
theorem ret_agg2 {a b c d : Int} (h : a = b) (k : c = d) : Ending.returned (.agg #[.int .i64 a, .int .i64 c]) = .returned (.agg #[.int .i64 b, .int .i64 d]) := by rw [h, k]
theorem c_isTime (n : Int) (w : World) :
    Calls Try.prog 36 #[.int .i64 n] w fun e w' => e = .returned (.bool (inB n 0 100000)) ∧ w = w' := by
  go_enter Try.func36, Try.ntmps36
  go_wp2_with (go_at_call 37; refine (c_in _ _ _ _).mono ?_; rintro e w' ⟨rfl, rfl⟩)
  go_ret
  exact ⟨rfl, rfl⟩
theorem c_BreakerValid (f u : Int) (w : World) :
    Calls Try.prog 14 #[.agg #[.int .i64 f, .int .i64 u]] w fun e w' => e = .returned (.bool (bv f u)) ∧ Below w.heap.size w w' := by
  cases h1 : inB f 0 100 <;> cases h2 : inB u 0 200000
  all_goals
    go_enter Try.func14, Try.ntmps14
    go_wp2_with (go_at_call 37; refine (c_in _ _ _ _).mono ?_; rintro e w' ⟨rfl, rfl⟩)
    go_ret
    exact ⟨ret_bool (by simp [bv, h1, h2]), by go_grown⟩
theorem s_BreakerValid (f u : Int) (w : World) :
    Calls Try.prog 38 #[.agg #[.int .i64 f, .int .i64 u]] w fun e w' => e = .returned (.bool (bv f u)) ∧ Below w.heap.size w w' := by
  cases h1 : inB f 0 100 <;> cases h2 : inB u 0 200000
  all_goals
    go_enter Try.func38, Try.ntmps38
    go_wp2_with (go_at_call 39; refine (c_l1In _ _ _ _).mono ?_; rintro e w' ⟨rfl, rfl⟩)
    go_ret
    exact ⟨ret_bool (by simp [bv, h1, h2]), by go_grown⟩
set_option maxHeartbeats 400000 in
theorem c_BreakerAllows (f u now : Int) (w : World) :
    Calls Try.prog 12 #[.agg #[.int .i64 f, .int .i64 u], .int .i64 now] w fun e w' => e = .returned (.bool (allowsB f u now)) ∧ Below w.heap.size w w' := by
  have g0 : Below w.heap.size w (w.alloc (.cells #[.int .i64 f, .int .i64 u] 24)) := (Below.refl _ _).alloc (Nat.le_refl _) _
  have z0 : w.heap.size < (w.alloc (.cells #[.int .i64 f, .int .i64 u] 24)).heap.size := by simp
  cases h1 : bv f u <;> cases h2 : inB now 0 100000 <;> by_cases h3 : u ≤ now
  all_goals
    go_enter Try.func12, Try.ntmps12
    go_wp2_with fail
    refine (c_BreakerValid _ _ _).mono ?_; rintro e w1 ⟨rfl, hb1⟩
    have c1 := hb1.cell (p := ⟨w.heap.size, 1, none⟩) (by simp)
    go_wp2_with (go_at_call 36; refine (c_isTime _ _).mono ?_; rintro e w' ⟨rfl, rfl⟩)
    go_ret
    exact ⟨ret_bool (by simp [allowsB, h1, h2, h3]; try omega), g0.trans (hb1.mono (by simp))⟩
end Go.Proofs.Ytdgfngcfodccmaa
