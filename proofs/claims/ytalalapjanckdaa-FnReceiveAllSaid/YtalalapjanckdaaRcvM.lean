/- Contracts of sameReceiver. No condition but lists of at most 2^20 numbers. -/
import Derived.Test.YtalalapjanckdaaRcvL
import Derived.Test.YtalalapjanckdaaSame
namespace Go.Proofs.Ytalalapjanckdaa
open Go.RowKit
set_option maxHeartbeats 800000 in
theorem c_sameReceiver (N R : Int) (a a' : Option Addr) (n ca ca' : Nat) (xs : List Int) (w : World) (hxs : xs.length = n) (hn : n ≤ 1048576) (h : Ints w a xs) (h' : Ints w a' xs) :
    Calls Try.prog 31 #[.agg #[.int .i64 N, .int .i64 R, .slice a n ca], .agg #[.int .i64 N, .int .i64 R, .slice a' n ca']] w fun e w' => e = .returned (.bool true) ∧ Below w.heap.size w w' := by
  obtain ⟨W, hW, hB, hz, h0, h1⟩ : ∃ W, W = ((w.alloc (.cells #[.int .i64 N, .int .i64 R, .slice a n ca] 52)).alloc (.cells #[.int .i64 N, .int .i64 R, .slice a' n ca'] 52)) ∧
    Below w.heap.size w W ∧ W.heap.size = w.heap.size + 2 ∧ Box W w.heap.size 52 [.int .i64 N, .int .i64 R, .slice a n ca] ∧ Box W (w.heap.size + 1) 52 [.int .i64 N, .int .i64 R, .slice a' n ca'] := headB w 52 52 _ _
  have HX := Lib.hid hxs
  have HW := Lib.hid hW
  have HB := Lib.hid hB
  have HZ := Lib.hid hz
  have HI := Lib.hid (h.below hB)
  have HJ := Lib.hid (h'.below hB)
  clear hxs hW hB hz h0 h1 h h'
  go_enter Try.func31, Try.ntmps31
  go_wp2_with fail
  rw [← HW.out]
  refine (c_sameInts a a' n ca ca' xs W HX.out hn HI.out HJ.out).mono ?_; rintro e w1 ⟨rfl, b1⟩
  have B1 := Lib.hid b1
  clear b1
  go_wp2
  go_ret
  exact ⟨rfl, HB.out.trans (B1.out.mono (by rw [HZ.out]; omega))⟩
theorem c_sameInts_no (a b : Option Addr) (n m ca cb : Nat) (w : World) (h : ¬ ((n : Int) = (m : Int))) :
    Calls Try.prog 32 #[.slice a n ca, .slice b m cb] w fun e w' => e = .returned (.bool false) ∧ w = w' := by
  go_enter Try.func32, Try.ntmps32
  go_wp2
  go_ret
  exact ⟨rfl, rfl⟩
/-- A receiver without numbers beside another. -/
theorem c_sameReceiver_zero (N R N' R' : Int) (a a' : Option Addr) (n ca ca' : Nat) (w : World) :
    Calls Try.prog 31 #[.agg #[.int .i64 N, .int .i64 R, .slice a 0 ca], .agg #[.int .i64 N', .int .i64 R', .slice a' n ca']] w fun e w' => (∃ q, e = .returned (.bool q)) ∧ Below w.heap.size w w' := by
  by_cases h1 : N = N'
  · by_cases h2 : R = R'
    · subst h1 h2
      by_cases h3 : n = 0
      · subst h3
        exact (c_sameReceiver N R a a' 0 ca ca' [] w rfl (by omega) (.inl rfl) (.inl rfl)).mono fun _ _ h => ⟨⟨_, h.1⟩, h.2⟩
      · have h3' : ¬ (((0 : Nat) : Int) = (n : Int)) := by omega
        go_enter Try.func31, Try.ntmps31
        go_wp2_with fail
        refine (c_sameInts_no _ _ 0 n _ _ _ h3').mono ?_; rintro e w' ⟨rfl, rfl⟩
        go_wp2
        go_ret
        exact ⟨⟨_, rfl⟩, by go_grown⟩
    · have hb : (R == R') = false := beq_eq_false_iff_ne.2 h2
      subst h1
      go_enter Try.func31, Try.ntmps31
      go_wp2
      go_ret
      exact ⟨⟨_, rfl⟩, by go_grown⟩
  · have hb : (N == N') = false := beq_eq_false_iff_ne.2 h1
    go_enter Try.func31, Try.ntmps31
    go_wp2
    go_ret
    exact ⟨⟨_, rfl⟩, by go_grown⟩
end Go.Proofs.Ytalalapjanckdaa
