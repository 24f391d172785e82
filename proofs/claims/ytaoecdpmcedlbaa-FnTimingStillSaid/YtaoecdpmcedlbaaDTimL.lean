/- The walks of the laws FnTimingValid and FnWaitOf: true for all bytes. No condition. -/
import Derived.Test.YtaoecdpmcedlbaaDTim
import Derived.Test.YtaoecdpmcedlbaaDLaw
import Derived.Test.YtaoecdpmcedlbaaStep
namespace Go.Proofs.Ytaoecdpmcedlbaa
open Go.RowKit
/-- A struct of two small numbers; nothing that was there has turned. -/
def RetD2 (w : World) (lo hi : Int) (e : Ending) (w' : World) : Prop :=
  ∃ m s : Int, e = .returned (.agg #[.int .i64 m, .int .i64 s]) ∧ lo ≤ m ∧ m ≤ hi ∧ lo ≤ s ∧ s ≤ hi ∧ Below w.heap.size w w'
set_option maxHeartbeats 400000 in
theorem s_DrawTimingValid (a : Option Addr) (len cap : Nat) (w : World) (hcl : len ≤ cap) (hcap : cap ≤ maxLen) (h : Code w.heap.size w a len) :
    Calls Try.prog 17 #[.slice a len cap] w (RetD2 w (-1) 10001) := by
  have HC := Lib.hid h
  clear h
  go_enter Try.func17, Try.ntmps17
  go_wp2_with fail
  refine (c_open (D := w.heap.size) a len cap _ hcl hcap (by simp) (HC.out.below ((Below.refl _ _).alloc (Nat.le_refl _) _))).mono ?_
  rintro e w1 ⟨g, rfl, hg, hr, hb⟩
  simp only [World.size_alloc] at hg
  have HR := Lib.hid hr
  have HB := Lib.hid hb
  have hz := hb.size
  simp only [World.size_alloc] at hz
  clear hr hb
  go_wp2_with fail
  refine (s_l20Timing g 0 _ _ HR.out (by omega) (by omega) (by omega)).mono ?_
  rintro e w2 ⟨m, s, rfl, m1, m2, s1, s2, _, hg2⟩
  have q1 : Below w.heap.size w w1 := ((Below.refl _ _).alloc (Nat.le_refl _) _).trans (HB.out.mono (by simp))
  have B1 : Box w1 w.heap.size 25 [.int .i64 0, .int .i64 0] := (Box.new w 25 [.int .i64 0, .int .i64 0]).keep HB.out
  have B2 := B1.by hg2 (by omega)
  have r0 := B2.cell 0
  have r1 := B2.cell 1
  have r2 := B2.frozen 0
  have r3 := B2.frozen 1
  simp only [List.getElem?_cons_zero, List.getElem?_cons_succ] at r0 r1
  have q2 := Lib.hid (q1.trans (gb_below hg2 (by omega) (by omega)))
  clear q1 B1 B2 hg2
  go_wp2_with fail
  refine bodyPost_ret (v := .agg #[.int .i64 m, .int .i64 s]) (by simp [results, Try.results17, go_sem, r0, r1]) rfl ?_
  have q := q2.out
  exact ⟨m, s, rfl, m1, m2, s1, s2, by go_grown⟩
theorem tv_neg (s : Int) : tv (-1) s = false := by
  have h : inB (-1) 0 10000 = false := by decide
  simp [tv, h]
theorem tv_zero : tv 0 0 = true := by decide
set_option maxHeartbeats 400000 in
theorem walkTimingValid (a : Option Addr) (n cap : Nat) (z : List Int) (w : World) (w0 : IsRow .u8 w a n cap z) :
    Calls Try.prog 5 #[.slice a n cap] w fun e w' => e = .returned (.bool true) ∧ Below w.heap.size w w' := by
  by_cases hbig : 1048576 < n
  · have hb' : (1048576 : Int) < (n : Int) := by omega
    go_enter Try.func5, Try.ntmps5
    go_wp2
    go_ret
    exact ⟨rfl, Below.refl _ _⟩
  have hn' : (n : Int) ≤ 1048576 := by omega
  obtain ⟨hcl, hcap⟩ := w0.caps
  have HC := Lib.hid w0.code
  clear w0 hbig
  go_enter Try.func5, Try.ntmps5
  go_wp2_with fail
  refine (s_DrawTimingValid a n cap _ hcl hcap HC.out).mono ?_
  rintro e w1 ⟨m, s, rfl, m1, m2, s1, s2, b1⟩
  have z1 := b1.size
  have Q1 := Lib.hid (b1.alloc z1 (.cells #[.int .i64 m, .int .i64 s] 25))
  have HB := Lib.hid (Box.new w1 25 [.int .i64 m, .int .i64 s])
  clear b1
  go_wp2_with fail
  refine (c_TimingValid _ _ _).mono ?_; rintro e w2 ⟨rfl, b2⟩
  have Q2 := Lib.hid (Below.step Q1.out b2 (by simp only [World.size_alloc]; omega))
  have z2 := b2.size
  simp only [World.size_alloc] at z2
  have HB2 := Lib.hid (HB.out.keep b2)
  have x0 := HB2.out.cell 0
  have x1 := HB2.out.cell 1
  simp only [List.getElem?_cons_zero, List.getElem?_cons_succ] at x0 x1
  clear b2
  cases htv : tv m s
  all_goals
    go_wp2_with fail
    refine (s_TimingValid _ _ _).mono ?_; rintro e w3 ⟨rfl, b3⟩
    have Q3 := Lib.hid (Below.step Q2.out b3 (by omega))
    have z3 := b3.size
    have HB3 := Lib.hid (HB2.out.keep b3)
    have y0 := HB3.out.cell 0
    have y1 := HB3.out.cell 1
    simp only [List.getElem?_cons_zero, List.getElem?_cons_succ] at y0 y1
    clear b3
    go_wp2_with fail
    refine (c_TimingValid _ _ _).mono ?_; rintro e w4 ⟨rfl, b4⟩
    have Q4 := Lib.hid (Below.step Q3.out b4 (by omega))
    have z4 := b4.size
    rw [tv_neg]
    clear b4
    go_wp2_with fail
    refine (c_TimingValid _ _ _).mono ?_; rintro e w5 ⟨rfl, b5⟩
    have Q5 := Lib.hid (Below.step Q4.out b5 (by omega))
    have z5 := b5.size
    rw [tv_zero]
    clear b5
    go_wp2_with fail
    refine (c_alive _).mono ?_; rintro e w6 ⟨rfl, b6⟩
    have Q6 := Below.step Q5.out b6 (by omega)
    go_wp2_with fail
    go_ret
    exact ⟨rfl, Q6⟩
end Go.Proofs.Ytaoecdpmcedlbaa
