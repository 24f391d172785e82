/- Contracts of the small functions that all the laws of this seat reach: in, l1In, and the validity of a timing. No condition. -/
import Derived.Test.YtdpmlkigmadajaaBox
namespace Go.Proofs.Ytdpmlkigmadajaa
open Go.RowKit
theorem c_isAnswer (n : Int) (w : World) :
    Calls Try.prog 50 #[.int .i64 n] w fun e w' => e = .returned (.bool (inB n 0 10000)) ∧ w = w' := by
  go_enter Try.func50, Try.ntmps50
  go_wp2_with (go_at_call 58; refine (c_in _ _ _ _).mono ?_; rintro e w' ⟨rfl, rfl⟩)
  go_ret
  exact ⟨rfl, rfl⟩

/-- A timing is valid. -/
def tv (m s : Int) : Bool := inB m 0 10000 && inB s 0 10000
theorem c_TimingValid (m s : Int) (w : World) :
    Calls Try.prog 54 #[.agg #[.int .i64 m, .int .i64 s]] w fun e w' => e = .returned (.bool (tv m s)) ∧ Below w.heap.size w w' := by
  cases h1 : inB m 0 10000 <;> cases h2 : inB s 0 10000
  all_goals
    go_enter Try.func54, Try.ntmps54
    go_wp2_with (go_at_call 50; refine (c_isAnswer _ _).mono ?_; rintro e w' ⟨rfl, rfl⟩)
    go_ret
    exact ⟨by simp [tv, h1, h2], by go_grown⟩
theorem s_TimingValid (m s : Int) (w : World) :
    Calls Try.prog 75 #[.agg #[.int .i64 m, .int .i64 s]] w fun e w' => e = .returned (.bool (tv m s)) ∧ Below w.heap.size w w' := by
  cases h1 : inB m 0 10000 <;> cases h2 : inB s 0 10000
  all_goals
    go_enter Try.func75, Try.ntmps75
    go_wp2_with (go_at_call 51; refine (c_l1In _ _ _ _).mono ?_; rintro e w' ⟨rfl, rfl⟩)
    go_ret
    exact ⟨by simp [tv, h1, h2], by go_grown⟩
end Go.Proofs.Ytdpmlkigmadajaa
