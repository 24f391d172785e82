/- The walk of the exact law of TimingRun: true for all arguments. No condition. -/
import Derived.Test.YtaoecdpmcedlbaaRun2
namespace Go.Proofs.Ytaoecdpmcedlbaa
open Go.RowKit
set_option maxHeartbeats 400000 in
theorem walkExactTimingRun (a : Option Addr) (n cap : Nat) (z : List Int) (w : World) (w0 : IsRow .i64 w a n cap z) :
    Calls Try.prog 10 #[.slice a n cap] w fun e w' => e = .returned (.bool true) ∧ Below w.heap.size w w' := by
  by_cases hbig : 1048576 < n
  · have hb' : (1048576 : Int) < (n : Int) := by omega
    go_enter Try.func10, Try.ntmps10
    go_wp2
    go_ret
    exact ⟨rfl, Below.refl _ _⟩
  have hn : n ≤ 1048576 := by omega
  have hn' : (n : Int) ≤ 1048576 := by omega
  obtain ⟨hI, hL⟩ := w0.ints
  generalize z.take n = xs at hI hL
  clear w0 hbig
  have HI := Lib.hid hI
  have HL := Lib.hid hL
  clear hI hL
  go_enter Try.func10, Try.ntmps10
  go_wp2_with fail
  refine (c_toIntS _ _ _ xs _ HL.out hn HI.out).mono ?_; rintro e w1 ⟨g1, rfl, o1, gr1⟩
  have b1 := grown_below gr1
  have I1 := ownsRow.ints o1
  clear o1 gr1
  go_wp2_with fail
  refine (s_TimingRun _ _ _ xs _ HL.out hn I1).mono ?_; rintro e w2 ⟨rfl, b2⟩
  have d2 := Below.step b1 b2 b1.size
  have z2 := d2.size
  clear b1 b2 I1
  go_wp2_with fail
  refine (c_toIntS _ _ _ xs _ HL.out hn (HI.out.below (d2.alloc z2 _))).mono ?_; rintro e w3 ⟨g3, rfl, o3, gr3⟩
  have b3 := grown_below gr3
  have I3 := ownsRow.ints o3
  have z3 := b3.size
  simp only [World.size_alloc] at z3
  have B2 : Box w3 w2.heap.size 25 [.int .i64 (runT xs).1, .int .i64 (runT xs).2] := (Box.new w2 25 [.int .i64 (runT xs).1, .int .i64 (runT xs).2]).keep b3
  have HB2 := Lib.hid B2
  have HI3 := Lib.hid I3
  have q3 : Below w.heap.size w w3 := Below.step (d2.alloc z2 _) b3 (by simp only [World.size_alloc]; omega)
  have D3 := Lib.hid q3
  clear o3 gr3 b3 d2 I3 B2 q3
  go_wp2_with fail
  refine (c_TimingRun _ _ _ xs _ HL.out hn (Nat.le_refl _) (by unfold maxLen; omega) HI3.out).mono ?_; rintro e w4 ⟨rfl, b4⟩
  have z4 := b4.size
  have q4 := Below.step D3.out b4 (by omega)
  have I4 : Ints (w4.alloc (.cells #[.int .i64 (runT xs).1, .int .i64 (runT xs).2] 25)) (some ⟨g3, 0, none⟩) xs := (HI3.out.below b4).below ((Below.refl _ _).alloc (Nat.le_refl _) _)
  have HI4 := Lib.hid I4
  have B4 := (HB2.out.keep b4).alloc (.cells #[.int .i64 (runT xs).1, .int .i64 (runT xs).2] 25)
  have x0 := B4.cell 0
  have x1 := B4.cell 1
  simp only [List.getElem?_cons_zero, List.getElem?_cons_succ] at x0 x1
  have D4 := Lib.hid (q4.alloc (by omega) (.cells #[.int .i64 (runT xs).1, .int .i64 (runT xs).2] 25))
  clear q4 I4 B4 b4
  go_wp2_with fail
  refine (c_eqTiming _ _ _).mono ?_; rintro e w5 ⟨rfl, b5⟩
  have z5 := b5.size
  simp only [World.size_alloc] at z5
  have q5 := Below.step D4.out b5 (by simp only [World.size_alloc]; omega)
  have D5 := Lib.hid q5
  have HI5 := Lib.hid (HI4.out.below b5)
  have HJ5 := Lib.hid (HI.out.below q5)
  clear b5 q5
  go_wp2_with fail
  refine (c_toIntS _ _ _ xs _ HL.out hn HJ5.out).mono ?_; rintro e w6 ⟨g6, rfl, o6, gr6⟩
  have b6 := grown_below gr6
  have HI6 := Lib.hid (HI5.out.below b6)
  have HJ6 := Lib.hid (ownsRow.ints o6)
  have q6 := Below.step D5.out b6 (by omega)
  have z6 := b6.size
  have D6 := Lib.hid q6
  clear o6 gr6 b6 q6
  go_wp2_with fail
  refine (c_eqIntS _ _ _ _ _ xs _ HL.out hn HI6.out HJ6.out).mono ?_; rintro e w7 ⟨rfl, b7⟩
  go_wp2_with fail
  go_ret
  exact ⟨rfl, Below.step D6.out b7 (by omega)⟩
end Go.Proofs.Ytaoecdpmcedlbaa
