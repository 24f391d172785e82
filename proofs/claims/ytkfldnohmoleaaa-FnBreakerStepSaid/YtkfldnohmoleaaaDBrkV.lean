/- The walk of the law FnBreakerValid: true for all bytes. No condition. -/
import Derived.Test.YtkfldnohmoleaaaDBrkL
import Derived.Test.YtkfldnohmoleaaaBrk
namespace Go.Proofs.Ytkfldnohmoleaaa
open Go.RowKit
theorem bv_neg (s : Int) : bv (-1) s = false := by
  have h : inB (-1) 0 100 = false := by decide
  simp [bv, h]
theorem bv_zero : bv 0 0 = true := by decide
set_option maxHeartbeats 400000 in
theorem walkBreakerValid (a : Option Addr) (n cap : Nat) (z : List Int) (w : World) (w0 : IsRow .u8 w a n cap z) :
    Calls Try.prog 5 #[.slice a n cap] w fun e w' => e = .returned (.bool true) ∧ Below w.heap.size w w' := by
  by_cases hbig : 1048576 < n
  · have hb' : (1048576 : Int) < (n : Int) := by omega
    go_enter Try.func5, Try.ntmps5
    go_wp2
    go_ret
    exact ⟨rfl, Below.refl _ _⟩
  have hn' : (n : Int) ≤ 1048576 := by omega
  obtain ⟨hcl, hcap⟩ := w0.caps
  have HC := Lib.hid w0.code
  clear w0 hbig
  go_enter Try.func5, Try.ntmps5
  go_wp2_with fail
  refine (s_DrawBreakerValid a n cap _ hcl hcap HC.out).mono ?_
  rintro e w1 ⟨m, s, rfl, m1, m2, s1, s2, b1⟩
  have z1 := b1.size
  have Q1 := Lib.hid (b1.alloc z1 (.cells #[.int .i64 m, .int .i64 s] 25))
  have HB := Lib.hid (Box.new w1 25 [.int .i64 m, .int .i64 s])
  clear b1
  go_wp2_with fail
  refine (c_BreakerValid _ _ _).mono ?_; rintro e w2 ⟨rfl, b2⟩
  have Q2 := Lib.hid (Below.step Q1.out b2 (by simp only [World.size_alloc]; omega))
  have z2 := b2.size
  simp only [World.size_alloc] at z2
  have HB2 := Lib.hid (HB.out.keep b2)
  have x0 := HB2.out.cell 0
  have x1 := HB2.out.cell 1
  simp only [List.getElem?_cons_zero, List.getElem?_cons_succ] at x0 x1
  clear b2
  cases htv : bv m s
  all_goals
    go_wp2_with fail
    refine (s_BreakerValid _ _ _).mono ?_; rintro e w3 ⟨rfl, b3⟩
    have Q3 := Lib.hid (Below.step Q2.out b3 (by omega))
    have z3 := b3.size
    have HB3 := Lib.hid (HB2.out.keep b3)
    have y1 := HB3.out.cell 1
    simp only [List.getElem?_cons_zero, List.getElem?_cons_succ] at y1
    rw [htv]
    clear b3
    go_wp2_with fail
    refine (c_BreakerValid _ _ _).mono ?_; rintro e w4 ⟨rfl, b4⟩
    have Q4 := Lib.hid (Below.step Q3.out b4 (by omega))
    have z4 := b4.size
    rw [bv_neg]
    clear b4
    go_wp2_with fail
    refine (c_BreakerValid _ _ _).mono ?_; rintro e w5 ⟨rfl, b5⟩
    have Q5 := Lib.hid (Below.step Q4.out b5 (by omega))
    have z5 := b5.size
    rw [bv_zero]
    clear b5
    go_wp2_with fail
    refine (c_alive _).mono ?_; rintro e w6 ⟨rfl, b6⟩
    have Q6 := Below.step Q5.out b6 (by omega)
    go_wp2_with fail
    go_ret
    exact ⟨rfl, Q6⟩
end Go.Proofs.Ytkfldnohmoleaaa
