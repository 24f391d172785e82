/- Flows compared: what '==' and '!=' say of two flows. No condition. -/
import Derived.Test.YtalalapjanckdaaFlo
namespace Go.Proofs.Ytalalapjanckdaa
open Go.RowKit
theorem flowFields : Try.prog.underlying 27 = some (.struct (Try.prog.fieldsOf 27)) := by kernel_rfl
theorem flowStood : Try.prog.stoodInHeld 27 = false := by kernel_rfl
theorem flowGuard : Try.prog.eqGuardType Try.prog.depth 27 = false := by kernel_rfl
theorem run_eqF (f g : F5) (w : World) : (Op.equalIn 10000 27 (fvv f) (fvv g)).run Try.prog w = .ok (decide (f = g)) w := by
  obtain ⟨x0, x1, x2, x3, x4⟩ := f
  obtain ⟨y0, y1, y2, y3, y4⟩ := g
  unfold fvv
  show (Op.equalIn (9999 + 1) _ _ _).run Try.prog w = _
  rw [run_equalIn_agg _ _ _ _ _ flowFields flowStood]
  by_cases h0 : x0 = y0
  · by_cases h1 : x1 = y1
    · by_cases h2 : x2 = y2
      · by_cases h3 : x3 = y3
        · by_cases h4 : x4 = y4
          · simp [go_sem, h0, h1, h2, h3, h4]
          · simp [go_sem, h0, h1, h2, h3, h4]
        · simp [go_sem, h0, h1, h2, h3]
      · simp [go_sem, h0, h1, h2]
    · simp [go_sem, h0, h1]
  · simp [go_sem, h0]
theorem run_eqlF (f g : F5) (w : World) : (binOp .eql 27 (fvv f) (fvv g)).run Try.prog w = .ok (.bool (decide (f = g))) w := by
  have := run_eqF f g w
  unfold fvv at *
  rw [run_eql_struct, this]; rfl
theorem run_neqF (f g : F5) (w : World) : (binOp .neq 27 (fvv f) (fvv g)).run Try.prog w = .ok (.bool (!decide (f = g))) w := by
  have := run_eqF f g w
  unfold fvv at *
  rw [run_neq_struct, this]; rfl
/-- .. as the walk meets it: alike. -/
theorem eqlF_yes {f g : F5} (h : f = g) (w : World) : (binOp .eql 27 (fvv f) (fvv g)).run Try.prog w = .ok (.bool true) w := by rw [run_eqlF, decide_eq_true h]
theorem eqlF_no {f g : F5} (h : f ≠ g) (w : World) : (binOp .eql 27 (fvv f) (fvv g)).run Try.prog w = .ok (.bool false) w := by rw [run_eqlF, decide_eq_false h]
theorem neqF_yes {f g : F5} (h : f ≠ g) (w : World) : (binOp .neq 27 (fvv f) (fvv g)).run Try.prog w = .ok (.bool true) w := by rw [run_neqF, decide_eq_false h]; rfl
theorem neqF_no {f g : F5} (h : f = g) (w : World) : (binOp .neq 27 (fvv f) (fvv g)).run Try.prog w = .ok (.bool false) w := by rw [run_neqF, decide_eq_true h]; rfl
theorem eqlF_yes' {x0 x1 x2 x3 x4 y0 y1 y2 y3 y4 : Int} (h : ((x0, x1, x2, x3, x4) : F5) = (y0, y1, y2, y3, y4)) : ∀ w, (binOp .eql 27 (.agg #[.int .i64 x0, .int .i64 x1, .int .i64 x2, .int .i64 x3, .int .i64 x4]) (.agg #[.int .i64 y0, .int .i64 y1, .int .i64 y2, .int .i64 y3, .int .i64 y4])).run Try.prog w = .ok (.bool true) w := fun w => by
  have := eqlF_yes h w
  unfold fvv at this
  exact this
theorem eqlF_no' {x0 x1 x2 x3 x4 y0 y1 y2 y3 y4 : Int} (h : ((x0, x1, x2, x3, x4) : F5) ≠ (y0, y1, y2, y3, y4)) : ∀ w, (binOp .eql 27 (.agg #[.int .i64 x0, .int .i64 x1, .int .i64 x2, .int .i64 x3, .int .i64 x4]) (.agg #[.int .i64 y0, .int .i64 y1, .int .i64 y2, .int .i64 y3, .int .i64 y4])).run Try.prog w = .ok (.bool false) w := fun w => by
  have := eqlF_no h w
  unfold fvv at this
  exact this
theorem neqF_yes' {x0 x1 x2 x3 x4 y0 y1 y2 y3 y4 : Int} (h : ((x0, x1, x2, x3, x4) : F5) ≠ (y0, y1, y2, y3, y4)) : ∀ w, (binOp .neq 27 (.agg #[.int .i64 x0, .int .i64 x1, .int .i64 x2, .int .i64 x3, .int .i64 x4]) (.agg #[.int .i64 y0, .int .i64 y1, .int .i64 y2, .int .i64 y3, .int .i64 y4])).run Try.prog w = .ok (.bool true) w := fun w => by
  have := neqF_yes h w
  unfold fvv at this
  exact this
theorem neqF_no' {x0 x1 x2 x3 x4 y0 y1 y2 y3 y4 : Int} (h : ((x0, x1, x2, x3, x4) : F5) = (y0, y1, y2, y3, y4)) : ∀ w, (binOp .neq 27 (.agg #[.int .i64 x0, .int .i64 x1, .int .i64 x2, .int .i64 x3, .int .i64 x4]) (.agg #[.int .i64 y0, .int .i64 y1, .int .i64 y2, .int .i64 y3, .int .i64 y4])).run Try.prog w = .ok (.bool false) w := fun w => by
  have := neqF_no h w
  unfold fvv at this
  exact this
end Go.Proofs.Ytalalapjanckdaa
