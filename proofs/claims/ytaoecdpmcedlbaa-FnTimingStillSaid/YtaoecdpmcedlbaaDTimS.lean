/- The walks of the laws FnTimingStep and FnTimingStill: true for all bytes. No condition. -/
import Derived.Test.YtaoecdpmcedlbaaDTimL
import Derived.Test.YtaoecdpmcedlbaaTyW
import Derived.Test.YtaoecdpmcedlbaaRun2
namespace Go.Proofs.Ytaoecdpmcedlbaa
open Go.RowKit
theorem sst : SStore 25 := by
  intro o ρ w x y b m n u v ho hx hy hb
  have c0 := hb.cell 0
  have c1 := hb.cell 1
  have f0 := hb.frozen 0
  have f1 := hb.frozen 1
  simp only [List.getElem?_cons_zero, List.getElem?_cons_succ] at c0 c1
  simp [execOp, ho, hx, hy, ints, go_sem, c0, c1, f0, f1]
/-- A struct of two small numbers and a small number; nothing that was there has turned. -/
def RetS3 (w : World) (e : Ending) (w' : World) : Prop :=
  ∃ m s k : Int, e = .returned (.tuple #[.agg #[.int .i64 m, .int .i64 s], .int .i64 k]) ∧ -1 ≤ m ∧ m ≤ 10001 ∧ -1 ≤ s ∧ s ≤ 10001 ∧ -1 ≤ k ∧ k ≤ 10001 ∧ Below w.heap.size w w'
set_option maxHeartbeats 1000000 in
theorem s_DrawTimingStep (a : Option Addr) (len cap : Nat) (w : World) (hcl : len ≤ cap) (hcap : cap ≤ maxLen) (h : Code w.heap.size w a len) :
    Calls Try.prog 23 #[.slice a len cap] w (RetS3 w) := by
  have HC := Lib.hid h
  clear h
  go_enter Try.func23, Try.ntmps23
  go_wp2_with fail
  refine (c_open (D := w.heap.size) a len cap _ hcl hcap (by simp) (HC.out.below ((Below.refl _ _).alloc (Nat.le_refl _) _))).mono ?_
  rintro e w1 ⟨g, rfl, hg, hr, hb⟩
  simp only [World.size_alloc] at hg
  have HR := Lib.hid hr
  have HB := Lib.hid hb
  have hz := hb.size
  simp only [World.size_alloc] at hz
  clear hr hb
  go_wp2_with fail
  refine (s_l20Timing g 0 _ _ HR.out (by omega) (by omega) (by omega)).mono ?_
  rintro e w2 ⟨m, s, rfl, m1, m2, s1, s2, ⟨p2, hp2, hr2⟩, hg2⟩
  have q1 : Below w.heap.size w w1 := ((Below.refl _ _).alloc (Nat.le_refl _) _).trans (HB.out.mono (by simp))
  have B1 : Box w1 w.heap.size 25 [.int .i64 0, .int .i64 0] := (Box.new w 25 [.int .i64 0, .int .i64 0]).keep HB.out
  have B2 := Lib.hid ((B1.by hg2 (by omega)).alloc (.cells #[.int .i64 m, .int .i64 s] 25))
  have q2 := Lib.hid ((q1.trans (gb_below hg2 (by omega) (by omega))).alloc (by have := hg2.size; omega) (.cells #[.int .i64 m, .int .i64 s] 25))
  have HR2 := Lib.hid (hr2.keep (grownBy_alloc w2 none (.cells #[.int .i64 m, .int .i64 s] 25)))
  have hz2 : w1.heap.size ≤ w2.heap.size := hg2.size
  have hglt : g < w2.heap.size := hr2.lt
  have HT := Lib.hid (Box.new w2 25 [.int .i64 m, .int .i64 s])
  clear q1 B1 hg2 hr2
  go_wp2_with fail
  refine region_stored (D := w.heap.size + 1) (D0 := w.heap.size) _ 25 15 24 g p2 w.heap.size [(4, .rd), (5, .sb 25 [(-1, 10001), (-1, 10001)])] [(4, .rd), (5, .sb 25 [(-1, 10001), (-1, 10001)]), (10, .agg [(-1, 10001), (-1, 10001)]), (11, .rd), (12, .int 0 255), (13, .rd), (14, .int 0 255), (15, .int 0 9945), (16, .sl [(0, 255), (0, 9945), (10000, 10000), (10001, 10001), (-1, -1)]), (17, .sl [(0, 0), (0, 0), (1, 1), (1, 1), (2, 2), (3, 3), (4, 4)]), (18, .rd), (19, .int 0 6), (20, .pt 0 4), (21, .int 0 4), (22, .pt (-1) 10001), (23, .int (-1) 10001)] [10, 11, 12, 13, 14, 15, 16, 17, 18, 19, 20, 21, 22, 23] 14 2 [(-1, 10001), (-1, 10001)] rfl (by kernel_rfl) rfl sok sst ?_ HR2.out (by omega) rfl 0 0 B2.out (by omega) (by omega) (by omega) ?_
  · intro q hq
    simp only [List.mem_cons, List.not_mem_nil, or_false] at hq
    rcases hq with rfl | rfl
    · rfl
    · exact ⟨_, [m, s], rfl, by omega, by omega, HT.out, m1, m2, s1, s2, trivial⟩
  intro f w3 hf hgr ⟨xs, hbd, B3⟩ hrd
  obtain ⟨k, hv5, k1, k2⟩ := hf 23 (by decide)
  obtain ⟨m', s', rfl, m1', m2', s1', s2'⟩ := Bds.two hbd
  have m1' : -1 ≤ m' := m1'
  have m2' : m' ≤ 10001 := m2'
  have s1' : -1 ≤ s' := s1'
  have s2' : s' ≤ 10001 := s2'
  have k1 : -1 ≤ k := k1
  have k2 : k ≤ 10001 := k2
  clear hf hbd hrd
  have q3 := Lib.hid (q2.out.trans (GrC.below hgr (by simp; omega) (by omega) (by omega)))
  have r0 := B3.cell 0
  have r1 := B3.cell 1
  have r2 := B3.frozen 0
  have r3 := B3.frozen 1
  simp only [List.map, List.getElem?_cons_zero, List.getElem?_cons_succ] at r0 r1
  simp only [List.drop_succ_cons, List.drop_zero, putL, Act.put, List.setIfInBounds_toArray, List.set_cons_succ, List.set_cons_zero, hv5]
  clear hv5 hgr B3 B2
  go_wp2_with fail
  refine bodyPost_ret (v := .tuple #[.agg #[.int .i64 m', .int .i64 s'], .int .i64 k]) (by simp [results, Try.results23, go_sem, r0, r1]) rfl ?_
  have q := q3.out
  exact ⟨m', s', k, rfl, m1', m2', s1', s2', k1, k2, by go_grown⟩
end Go.Proofs.Ytaoecdpmcedlbaa
