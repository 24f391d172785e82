/- The walks of the exact laws of SplitCount and SplitPart: true for all arguments. No condition. -/
import Derived.Test.YtbbkddflgjjipaaSplitC
namespace Go.Proofs.Ytbbkddflgjjipaa
open Go.RowKit
set_option maxHeartbeats 400000 in
theorem walkExactSplitCount (a : Option Addr) (n cap : Nat) (z : List Int) (share : Int) (w : World) (w0 : IsRow .i64 w a n cap z) (_hw_share : (Lit.int .i64 share).wf = true) :
    Calls Try.prog 5 #[.slice a n cap, .int .i64 share] w fun e w' => e = .returned (.bool true) ∧ Below w.heap.size w w' := by
  by_cases hbig : 1048576 < n
  · have hb' : (1048576 : Int) < (n : Int) := by omega
    go_enter Try.func5, Try.ntmps5
    go_wp2
    go_ret
    exact ⟨rfl, Below.refl _ _⟩
  have hn : n ≤ 1048576 := by omega
  have hn' : (n : Int) ≤ 1048576 := by omega
  obtain ⟨hI, hL⟩ := w0.ints
  generalize z.take n = xs at hI hL
  clear w0 hbig
  have HI := Lib.hid hI
  have HL := Lib.hid hL
  clear hI hL
  go_enter Try.func5, Try.ntmps5
  go_wp2_with fail
  refine (c_toIntS _ _ _ xs _ HL.out hn HI.out).mono ?_; rintro e w1 ⟨g1, rfl, o1, gr1⟩
  have b1 := grown_below gr1
  have I1 := Lib.hid (ownsRow.ints o1)
  clear o1 gr1
  have z1 := b1.size
  go_wp2_with fail
  refine (s_SplitCount _ _ _ xs share _ HL.out hn I1.out).mono ?_; rintro e w2 ⟨rfl, b2⟩
  have D2 := Lib.hid (Below.step b1 b2 z1)
  have z2 := D2.out.size
  clear b1 b2
  have HI1 := Lib.hid (HI.out.below D2.out)
  go_wp2_with fail
  refine (c_toIntS _ _ _ xs _ HL.out hn HI1.out).mono ?_; rintro e w3 ⟨g3, rfl, o3, gr3⟩
  have b3 := grown_below gr3
  have I3 := Lib.hid (ownsRow.ints o3)
  have D3 := Lib.hid (Below.step D2.out b3 z2)
  clear o3 gr3 b3
  have z3 := D3.out.size
  go_wp2_with fail
  refine (c_SplitCount _ _ _ xs share _ HL.out hn I3.out).mono ?_; rintro e w4 ⟨rfl, b4⟩
  have D4 := Lib.hid (Below.step D3.out b4 z3)
  have J4 := Lib.hid (I3.out.below b4)
  clear b4
  have z4 := D4.out.size
  have HI3 := Lib.hid (HI.out.below D4.out)
  go_wp2_with fail
  refine (c_toIntS _ _ _ xs _ HL.out hn HI3.out).mono ?_; rintro e w5 ⟨g5, rfl, o5, gr5⟩
  have b5 := grown_below gr5
  have I5 := Lib.hid (ownsRow.ints o5)
  have J5 := Lib.hid (J4.out.below b5)
  have D5 := Lib.hid (Below.step D4.out b5 z4)
  clear o5 gr5 b5
  have z5 := D5.out.size
  go_wp2_with fail
  refine (c_eqIntS _ _ _ _ _ xs _ HL.out hn J5.out I5.out).mono ?_; rintro e w6 ⟨rfl, b6⟩
  go_wp2_with fail
  go_ret
  exact ⟨rfl, Below.step D5.out b6 z5⟩
set_option maxHeartbeats 400000 in
theorem walkExactSplitPart (key : Int) (a : Option Addr) (n cap : Nat) (z : List Int) (w : World) (_hw_key : (Lit.int .i64 key).wf = true) (w0 : IsRow .i64 w a n cap z) :
    Calls Try.prog 6 #[.int .i64 key, .slice a n cap] w fun e w' => e = .returned (.bool true) ∧ Below w.heap.size w w' := by
  by_cases hbig : 1048576 < n
  · have hb' : (1048576 : Int) < (n : Int) := by omega
    go_enter Try.func6, Try.ntmps6
    go_wp2
    go_ret
    exact ⟨rfl, Below.refl _ _⟩
  have hn : n ≤ 1048576 := by omega
  have hn' : (n : Int) ≤ 1048576 := by omega
  obtain ⟨hI, hL⟩ := w0.ints
  generalize z.take n = xs at hI hL
  clear w0 hbig
  have HI := Lib.hid hI
  have HL := Lib.hid hL
  clear hI hL
  go_enter Try.func6, Try.ntmps6
  go_wp2_with fail
  refine (c_toIntS _ _ _ xs _ HL.out hn HI.out).mono ?_; rintro e w1 ⟨g1, rfl, o1, gr1⟩
  have b1 := grown_below gr1
  have I1 := Lib.hid (ownsRow.ints o1)
  clear o1 gr1
  have z1 := b1.size
  go_wp2_with fail
  refine (s_SplitPart key _ _ _ xs _ HL.out hn I1.out).mono ?_; rintro e w2 ⟨rfl, b2⟩
  have D2 := Lib.hid (Below.step b1 b2 z1)
  have z2 := D2.out.size
  clear b1 b2
  have HI1 := Lib.hid (HI.out.below D2.out)
  go_wp2_with fail
  refine (c_toIntS _ _ _ xs _ HL.out hn HI1.out).mono ?_; rintro e w3 ⟨g3, rfl, o3, gr3⟩
  have b3 := grown_below gr3
  have I3 := Lib.hid (ownsRow.ints o3)
  have D3 := Lib.hid (Below.step D2.out b3 z2)
  clear o3 gr3 b3
  have z3 := D3.out.size
  go_wp2_with fail
  refine (c_SplitPart key _ _ _ xs _ HL.out hn I3.out).mono ?_; rintro e w4 ⟨rfl, b4⟩
  have D4 := Lib.hid (Below.step D3.out b4 z3)
  have J4 := Lib.hid (I3.out.below b4)
  clear b4
  have z4 := D4.out.size
  have HI3 := Lib.hid (HI.out.below D4.out)
  go_wp2_with fail
  refine (c_toIntS _ _ _ xs _ HL.out hn HI3.out).mono ?_; rintro e w5 ⟨g5, rfl, o5, gr5⟩
  have b5 := grown_below gr5
  have I5 := Lib.hid (ownsRow.ints o5)
  have J5 := Lib.hid (J4.out.below b5)
  have D5 := Lib.hid (Below.step D4.out b5 z4)
  clear o5 gr5 b5
  have z5 := D5.out.size
  go_wp2_with fail
  refine (c_eqIntS _ _ _ _ _ xs _ HL.out hn J5.out I5.out).mono ?_; rintro e w6 ⟨rfl, b6⟩
  go_wp2_with fail
  go_ret
  exact ⟨rfl, Below.step D5.out b6 z5⟩
end Go.Proofs.Ytbbkddflgjjipaa
