/- Flows as five numbers: values, contracts of FlowValid, of the program and of the reference. No condition. -/
import Derived.Test.YtalalapjanckdaaBas
namespace Go.Proofs.Ytalalapjanckdaa
open Go.RowKit
/-- A flow: from, from's port, to, to's port, kind. -/
abbrev F5 := Int × Int × Int × Int × Int
def fI (f : F5) : List Int := [f.1, f.2.1, f.2.2.1, f.2.2.2.1, f.2.2.2.2]
def fvv (f : F5) : Value := .agg #[.int .i64 f.1, .int .i64 f.2.1, .int .i64 f.2.2.1, .int .i64 f.2.2.2.1, .int .i64 f.2.2.2.2]
/-- A flow is valid. -/
def fv (f : F5) : Bool := inB f.1 0 255 && inB f.2.2.1 0 255 && inB f.2.1 0 999 && inB f.2.2.2.1 0 999 && inB f.2.2.2.2 1 2
set_option maxHeartbeats 2000000 in
theorem c_FlowValid (f : F5) (w : World) : Calls Try.prog 50 #[fvv f] w fun e w' => e = .returned (.bool (fv f)) ∧ Below w.heap.size w w' := by
  have HR : Hid (fv f = (inB f.1 0 255 && inB f.2.2.1 0 255 && inB f.2.1 0 999 && inB f.2.2.2.1 0 999 && inB f.2.2.2.2 1 2)) := Lib.hid rfl
  obtain ⟨a, b, c, d, k⟩ := f
  unfold fvv
  have g0 : Below w.heap.size w (w.alloc (.cells #[.int .i64 a, .int .i64 b, .int .i64 c, .int .i64 d, .int .i64 k] 27)) := (Below.refl _ _).alloc (Nat.le_refl _) _
  cases h1 : inB a 0 255
  · go_enter Try.func50, Try.ntmps50
    go_wp2_with (go_at_call 63; refine (c_in _ _ _ _).mono ?_; rintro e w' ⟨rfl, rfl⟩)
    go_ret
    exact ⟨ret_bool (by rw [HR.out]; simp only [h1]; rfl), g0⟩
  cases h2 : inB c 0 255
  · go_enter Try.func50, Try.ntmps50
    go_wp2_with (go_at_call 63; refine (c_in _ _ _ _).mono ?_; rintro e w' ⟨rfl, rfl⟩)
    go_ret
    exact ⟨ret_bool (by rw [HR.out]; simp only [h1, h2]; rfl), g0⟩
  cases h3 : inB b 0 999
  · go_enter Try.func50, Try.ntmps50
    go_wp2_with (go_at_call 63; refine (c_in _ _ _ _).mono ?_; rintro e w' ⟨rfl, rfl⟩)
    go_ret
    exact ⟨ret_bool (by rw [HR.out]; simp only [h1, h2, h3]; rfl), g0⟩
  cases h4 : inB d 0 999
  · go_enter Try.func50, Try.ntmps50
    go_wp2_with (go_at_call 63; refine (c_in _ _ _ _).mono ?_; rintro e w' ⟨rfl, rfl⟩)
    go_ret
    exact ⟨ret_bool (by rw [HR.out]; simp only [h1, h2, h3, h4]; rfl), g0⟩
  go_enter Try.func50, Try.ntmps50
  go_wp2_with (go_at_call 63; refine (c_in _ _ _ _).mono ?_; rintro e w' ⟨rfl, rfl⟩)
  go_ret
  exact ⟨ret_bool (by rw [HR.out]; simp only [h1, h2, h3, h4]; rfl), g0⟩
set_option maxHeartbeats 2000000 in
theorem s_FlowValid (f : F5) (w : World) : Calls Try.prog 54 #[fvv f] w fun e w' => e = .returned (.bool (fv f)) ∧ Below w.heap.size w w' := by
  have HR : Hid (fv f = (inB f.1 0 255 && inB f.2.2.1 0 255 && inB f.2.1 0 999 && inB f.2.2.2.1 0 999 && inB f.2.2.2.2 1 2)) := Lib.hid rfl
  obtain ⟨a, b, c, d, k⟩ := f
  unfold fvv
  have g0 : Below w.heap.size w (w.alloc (.cells #[.int .i64 a, .int .i64 b, .int .i64 c, .int .i64 d, .int .i64 k] 27)) := (Below.refl _ _).alloc (Nat.le_refl _) _
  cases h1 : inB a 0 255
  · go_enter Try.func54, Try.ntmps54
    go_wp2_with (go_at_call 73; refine (c_l1In _ _ _ _).mono ?_; rintro e w' ⟨rfl, rfl⟩)
    go_ret
    exact ⟨ret_bool (by rw [HR.out]; simp only [h1]; rfl), g0⟩
  cases h2 : inB c 0 255
  · go_enter Try.func54, Try.ntmps54
    go_wp2_with (go_at_call 73; refine (c_l1In _ _ _ _).mono ?_; rintro e w' ⟨rfl, rfl⟩)
    go_ret
    exact ⟨ret_bool (by rw [HR.out]; simp only [h1, h2]; rfl), g0⟩
  cases h3 : inB b 0 999
  · go_enter Try.func54, Try.ntmps54
    go_wp2_with (go_at_call 73; refine (c_l1In _ _ _ _).mono ?_; rintro e w' ⟨rfl, rfl⟩)
    go_ret
    exact ⟨ret_bool (by rw [HR.out]; simp only [h1, h2, h3]; rfl), g0⟩
  cases h4 : inB d 0 999
  · go_enter Try.func54, Try.ntmps54
    go_wp2_with (go_at_call 73; refine (c_l1In _ _ _ _).mono ?_; rintro e w' ⟨rfl, rfl⟩)
    go_ret
    exact ⟨ret_bool (by rw [HR.out]; simp only [h1, h2, h3, h4]; rfl), g0⟩
  go_enter Try.func54, Try.ntmps54
  go_wp2_with (go_at_call 73; refine (c_l1In _ _ _ _).mono ?_; rintro e w' ⟨rfl, rfl⟩)
  go_ret
  exact ⟨ret_bool (by rw [HR.out]; simp only [h1, h2, h3, h4]; rfl), g0⟩
/-! ### the map of flows that were seen -/
theorem laidM : laidOutB Try.prog = true := by kernel_rfl
theorem flowRow : (27 : TypeId) < Try.prog.types.size := of_decide_eq_true (by kernel_rfl)
theorem m3 : 2 + 1 ≤ 10000 := by omega
theorem flowKt : Try.prog.keyTypeAt 2 27 = true := by kernel_rfl
theorem flowLaw : Go.WideMaps.KeyLaw Try.prog 27 := deep_law_laid (m := 2) (k := 27) laidM m3 flowRow flowKt (by kernel_rfl)
theorem flowKeyed : Go.Maps.Keyed Try.prog 27 := Go.Maps.Keyed.of_law flowLaw
end Go.Proofs.Ytalalapjanckdaa
