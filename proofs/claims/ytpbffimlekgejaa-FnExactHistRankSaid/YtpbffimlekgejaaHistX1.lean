/- The walks of the exact laws of HistValid, ClassOf and HistRank: true for all arguments. No condition. -/
import Derived.Test.YtpbffimlekgejaaClass
import Derived.Test.YtpbffimlekgejaaHistB
namespace Go.Proofs.Ytpbffimlekgejaa
open Go.RowKit
theorem wf_bd {n : Int} (h : (Lit.int .i64 n).wf = true) : -9223372036854775808 ≤ n ∧ n ≤ 9223372036854775807 := by
  simp [Lit.wf, IntKind.min, IntKind.max, IntKind.signed, IntKind.bits] at h
  omega
theorem walkExactClassOf (n : Int) (w : World) (hw : (Lit.int .i64 n).wf = true) :
    Calls Try.prog 4 #[.int .i64 n] w fun e w' => e = .returned (.bool true) ∧ Below w.heap.size w w' := by
  obtain ⟨h1, h2⟩ := wf_bd hw
  clear hw
  go_enter Try.func4, Try.ntmps4
  go_wp2_with (first | (go_at_call 17; refine (s_ClassOf _ _ h1 h2).mono ?_; rintro e w' ⟨rfl, rfl⟩) | (go_at_call 18; refine (c_ClassOf _ _ h1 h2).mono ?_; rintro e w' ⟨rfl, rfl⟩))
  go_ret
  exact ⟨rfl, Below.refl _ _⟩
set_option maxHeartbeats 400000 in
theorem walkExactHistValid (a : Option Addr) (n cap : Nat) (z : List Int)  (w : World) (w0 : IsRow .i64 w a n cap z)  :
    Calls Try.prog 3 #[.slice a n cap] w fun e w' => e = .returned (.bool true) ∧ Below w.heap.size w w' := by
  by_cases hbig : 1048576 < n
  · have hb' : (1048576 : Int) < (n : Int) := by omega
    go_enter Try.func3, Try.ntmps3
    go_wp2
    go_ret
    exact ⟨rfl, Below.refl _ _⟩
  have hn : n ≤ 1048576 := by omega
  have hn' : (n : Int) ≤ 1048576 := by omega
  obtain ⟨hI, hL⟩ := w0.ints
  generalize z.take n = xs at hI hL
  clear w0 hbig
  have HI := Lib.hid hI
  have HL := Lib.hid hL
  clear hI hL
  go_enter Try.func3, Try.ntmps3
  go_wp2_with fail
  refine (c_toIntS _ _ _ xs _ HL.out hn HI.out).mono ?_; rintro e w1 ⟨g1, rfl, o1, gr1⟩
  have b1 := grown_below gr1
  have I1 := Lib.hid (ownsRow.ints o1)
  clear o1 gr1
  have z1 := b1.size
  go_wp2_with fail
  refine (s_HistValid _ _ _ xs _ HL.out hn I1.out).mono ?_; rintro e w2 ⟨rfl, rfl⟩
  have HI1 := Lib.hid (HI.out.below b1)
  go_wp2_with fail
  refine (c_toIntS _ _ _ xs _ HL.out hn HI1.out).mono ?_; rintro e w3 ⟨g3, rfl, o3, gr3⟩
  have b3 := grown_below gr3
  have I3 := Lib.hid (ownsRow.ints o3)
  have D3 := Lib.hid (Below.step b1 b3 z1)
  clear o3 gr3 b1
  have z3 := b3.size
  clear b3
  go_wp2_with fail
  refine (c_HistValid _ _ _ xs _ HL.out hn I3.out).mono ?_; rintro e w4 ⟨rfl, rfl⟩
  have HI3 := Lib.hid (HI.out.below D3.out)
  go_wp2_with fail
  refine (c_toIntS _ _ _ xs _ HL.out hn HI3.out).mono ?_; rintro e w5 ⟨g5, rfl, o5, gr5⟩
  have b5 := grown_below gr5
  have I5 := Lib.hid (ownsRow.ints o5)
  have J5 := Lib.hid (I3.out.below b5)
  have D5 := Lib.hid (Below.step D3.out b5 (by omega))
  clear o5 gr5
  have z5 := b5.size
  clear b5
  go_wp2_with fail
  refine (c_eqIntS _ _ _ _ _ xs _ HL.out hn J5.out I5.out).mono ?_; rintro e w6 ⟨rfl, b6⟩
  go_wp2_with fail
  go_ret
  exact ⟨rfl, Below.step D5.out b6 (by omega)⟩
set_option maxHeartbeats 400000 in
theorem walkExactHistRank (a : Option Addr) (n cap : Nat) (z : List Int) (share : Int) (w : World) (w0 : IsRow .i64 w a n cap z) (_hw_share : (Lit.int .i64 share).wf = true) :
    Calls Try.prog 6 #[.slice a n cap, .int .i64 share] w fun e w' => e = .returned (.bool true) ∧ Below w.heap.size w w' := by
  by_cases hbig : 1048576 < n
  · have hb' : (1048576 : Int) < (n : Int) := by omega
    go_enter Try.func6, Try.ntmps6
    go_wp2
    go_ret
    exact ⟨rfl, Below.refl _ _⟩
  have hn : n ≤ 1048576 := by omega
  have hn' : (n : Int) ≤ 1048576 := by omega
  obtain ⟨hI, hL⟩ := w0.ints
  generalize z.take n = xs at hI hL
  clear w0 hbig
  have HI := Lib.hid hI
  have HL := Lib.hid hL
  clear hI hL
  go_enter Try.func6, Try.ntmps6
  go_wp2_with fail
  refine (c_toIntS _ _ _ xs _ HL.out hn HI.out).mono ?_; rintro e w1 ⟨g1, rfl, o1, gr1⟩
  have b1 := grown_below gr1
  have I1 := Lib.hid (ownsRow.ints o1)
  clear o1 gr1
  have z1 := b1.size
  go_wp2_with fail
  refine (s_HistRank _ _ _ xs share _ HL.out hn I1.out).mono ?_; rintro e w2 ⟨rfl, rfl⟩
  have HI1 := Lib.hid (HI.out.below b1)
  go_wp2_with fail
  refine (c_toIntS _ _ _ xs _ HL.out hn HI1.out).mono ?_; rintro e w3 ⟨g3, rfl, o3, gr3⟩
  have b3 := grown_below gr3
  have I3 := Lib.hid (ownsRow.ints o3)
  have D3 := Lib.hid (Below.step b1 b3 z1)
  clear o3 gr3 b1
  have z3 := b3.size
  clear b3
  go_wp2_with fail
  refine (c_HistRank _ _ _ xs share _ HL.out hn I3.out).mono ?_; rintro e w4 ⟨rfl, rfl⟩
  have HI3 := Lib.hid (HI.out.below D3.out)
  go_wp2_with fail
  refine (c_toIntS _ _ _ xs _ HL.out hn HI3.out).mono ?_; rintro e w5 ⟨g5, rfl, o5, gr5⟩
  have b5 := grown_below gr5
  have I5 := Lib.hid (ownsRow.ints o5)
  have J5 := Lib.hid (I3.out.below b5)
  have D5 := Lib.hid (Below.step D3.out b5 (by omega))
  clear o5 gr5
  have z5 := b5.size
  clear b5
  go_wp2_with fail
  refine (c_eqIntS _ _ _ _ _ xs _ HL.out hn J5.out I5.out).mono ?_; rintro e w6 ⟨rfl, b6⟩
  go_wp2_with fail
  go_ret
  exact ⟨rfl, Below.step D5.out b6 (by omega)⟩
end Go.Proofs.Ytpbffimlekgejaa
