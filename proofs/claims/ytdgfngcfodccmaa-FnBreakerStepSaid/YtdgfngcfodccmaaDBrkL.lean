/- The draws of breakers, with all that comes besides. -/
import Derived.Test.YtdgfngcfodccmaaDBrk
import Derived.Test.YtdgfngcfodccmaaDLaw
import Derived.Test.YtdgfngcfodccmaaTyW
namespace Go.Proofs.Ytdgfngcfodccmaa
open Go.RowKit
theorem sst : SStore 24 := by
  intro o ρ w x y b m n u v ho hx hy hb
  have c0 := hb.cell 0
  have c1 := hb.cell 1
  have f0 := hb.frozen 0
  have f1 := hb.frozen 1
  simp only [List.getElem?_cons_zero, List.getElem?_cons_succ] at c0 c1
  simp [execOp, ho, hx, hy, ints, go_sem, c0, c1, f0, f1]
/-- A struct of two small numbers; nothing that was there has turned. -/
def RetD2 (w : World) (e : Ending) (w' : World) : Prop :=
  ∃ m s : Int, e = .returned (.agg #[.int .i64 m, .int .i64 s]) ∧ -1 ≤ m ∧ m ≤ 101 ∧ -1 ≤ s ∧ s ≤ 200001 ∧ Below w.heap.size w w'
/-- A breaker of small numbers and a time; nothing that was there has turned. -/
def RetD3 (w : World) (e : Ending) (w' : World) : Prop :=
  ∃ m s k : Int, e = .returned (.tuple #[.agg #[.int .i64 m, .int .i64 s], .int .i64 k]) ∧ -1 ≤ m ∧ m ≤ 101 ∧ -1 ≤ s ∧ s ≤ 200001 ∧ -1 ≤ k ∧ k ≤ 200001 ∧ Below w.heap.size w w'
/-- A breaker of small numbers, a time, an answer, two bounds; nothing that was there has turned. -/
def RetD6 (w : World) (e : Ending) (w' : World) : Prop :=
  ∃ (m s k : Int) (good : Bool) (most pause : Int), e = .returned (.tuple #[.agg #[.int .i64 m, .int .i64 s], .int .i64 k, .bool good, .int .i64 most, .int .i64 pause]) ∧ -1 ≤ m ∧ m ≤ 101 ∧ -1 ≤ s ∧ s ≤ 200001 ∧ -1 ≤ k ∧ k ≤ 200009 ∧ 0 ≤ most ∧ most ≤ 100 ∧ 0 ≤ pause ∧ pause ≤ 100000 ∧ Below w.heap.size w w'
set_option maxHeartbeats 1000000 in
set_option maxRecDepth 4000 in
theorem s_DrawBreakerStep (a : Option Addr) (len cap : Nat) (w : World) (hcl : len ≤ cap) (hcap : cap ≤ maxLen) (h : Code w.heap.size w a len) :
    Calls Try.prog 9 #[.slice a len cap] w (RetD6 w) := by
  have HC := Lib.hid h
  clear h
  go_enter Try.func9, Try.ntmps9
  go_wp2_with fail
  refine (c_open (D := w.heap.size) a len cap _ hcl hcap (by simp) (HC.out.below ((Below.refl _ _).alloc (Nat.le_refl _) _))).mono ?_
  rintro e w1 ⟨g, rfl, hg, hr, hb⟩
  simp only [World.size_alloc] at hg
  have HR := Lib.hid hr
  have HB := Lib.hid hb
  have hz := hb.size
  simp only [World.size_alloc] at hz
  clear hr hb
  go_wp2_with fail
  refine (s_l20Breaker g 0 _ _ HR.out (by omega) (by omega) (by omega)).mono ?_
  rintro e w2 ⟨m, s, rfl, m1, m2, s1, s2, ⟨p2, hp2, hr2⟩, hg2⟩
  have q1 : Below w.heap.size w w1 := ((Below.refl _ _).alloc (Nat.le_refl _) _).trans (HB.out.mono (by simp))
  have B1 : Box w1 w.heap.size 24 [.int .i64 0, .int .i64 0] := (Box.new w 24 [.int .i64 0, .int .i64 0]).keep HB.out
  have B2 := Lib.hid ((B1.by hg2 (by omega)).alloc (.cells #[.int .i64 m, .int .i64 s] 24))
  have q2 := Lib.hid ((q1.trans (gb_below hg2 (by omega) (by omega))).alloc (by have := hg2.size; omega) (.cells #[.int .i64 m, .int .i64 s] 24))
  have HR2 := Lib.hid (hr2.keep (grownBy_alloc w2 none (.cells #[.int .i64 m, .int .i64 s] 24)))
  have hz2 : w1.heap.size ≤ w2.heap.size := hg2.size
  have hglt : g < w2.heap.size := hr2.lt
  have HT := Lib.hid (Box.new w2 24 [.int .i64 m, .int .i64 s])
  clear q1 B1 hg2 hr2
  go_wp2_with fail
  refine region_stored (D := w.heap.size + 1) (D0 := w.heap.size) _ 24 45 54 g p2 w.heap.size [(7, .rd), (8, .sb 24 [(-1, 101), (-1, 200001)])] [(7, .rd), (8, .sb 24 [(-1, 101), (-1, 200001)]), (13, .agg [(-1, 101), (-1, 200001)]), (14, .rd), (15, .int 0 119), (16, .pt (-1) 200001), (17, .int (-1) 200001), (18, .rd), (19, .int 0 8), (20, .int (-1) 200009), (21, .sl [(0, 119), (-1, 200009), (100000, 100000), (100001, 100001)]), (22, .sl [(0, 0), (0, 0), (1, 1), (1, 1), (1, 1), (2, 2), (3, 3)]), (23, .rd), (24, .int 0 6), (25, .pt 0 3), (26, .int 0 3), (27, .pt (-1) 200009), (28, .int (-1) 200009), (29, .rd), (30, .int 0 1), (31, .bool), (32, .rd), (33, .int 0 4), (34, .int 1 5), (35, .sl [(1, 5), (100, 100), (0, 0)]), (36, .sl [(0, 0), (0, 0), (0, 0), (0, 0), (1, 1), (2, 2)]), (37, .rd), (38, .int 0 5), (39, .pt 0 2), (40, .int 0 2), (41, .pt 0 100), (42, .int 0 100), (43, .rd), (44, .int 0 29), (45, .int 1 30), (46, .sl [(1, 30), (100000, 100000), (0, 0)]), (47, .sl [(0, 0), (0, 0), (0, 0), (0, 0), (1, 1), (2, 2)]), (48, .rd), (49, .int 0 5), (50, .pt 0 2), (51, .int 0 2), (52, .pt 0 100000), (53, .int 0 100000), (3, .int (-1) 200009), (4, .bool), (5, .int 0 100)] [13, 14, 15, 16, 17, 18, 19, 20, 21, 22, 23, 24, 25, 26, 27, 28, 29, 30, 31, 32, 33, 34, 35, 36, 37, 38, 39, 40, 41, 42, 43, 44, 45, 46, 47, 48, 49, 50, 51, 52, 53, 3, 4, 5] 41 2 [(-1, 101), (-1, 200001)] rfl (by kernel_rfl) rfl sok sst ?_ HR2.out (by omega) rfl 0 0 B2.out (by omega) (by omega) (by omega) ?_
  · intro q hq
    simp only [List.mem_cons, List.not_mem_nil, or_false] at hq
    rcases hq with rfl | rfl
    · rfl
    · exact ⟨_, [m, s], rfl, by omega, by omega, HT.out, m1, m2, s1, s2, trivial⟩
  intro f w3 hf hgr ⟨xs, hbd, B3⟩ hrd
  obtain ⟨k, hv5, k1, k2⟩ := hf 3 (by decide)
  obtain ⟨good, hv6⟩ := hf 4 (by decide)
  obtain ⟨most, hv7, o1, o2⟩ := hf 5 (by decide)
  obtain ⟨pause, hv8, u1, u2⟩ := hf 53 (by decide)
  obtain ⟨m', s', rfl, m1', m2', s1', s2'⟩ := Bds.two hbd
  have m1' : -1 ≤ m' := m1'
  have m2' : m' ≤ 101 := m2'
  have s1' : -1 ≤ s' := s1'
  have s2' : s' ≤ 200001 := s2'
  have k1 : -1 ≤ k := k1
  have k2 : k ≤ 200009 := k2
  have o1 : 0 ≤ most := o1
  have o2 : most ≤ 100 := o2
  have u1 : 0 ≤ pause := u1
  have u2 : pause ≤ 100000 := u2
  clear hf hbd hrd
  have q3 := Lib.hid (q2.out.trans (GrC.below hgr (by simp; omega) (by omega) (by omega)))
  have r0 := B3.cell 0
  have r1 := B3.cell 1
  have r2 := B3.frozen 0
  have r3 := B3.frozen 1
  simp only [List.map, List.getElem?_cons_zero, List.getElem?_cons_succ] at r0 r1
  simp only [List.drop_succ_cons, List.drop_zero, putL, Act.put, List.setIfInBounds_toArray, List.set_cons_succ, List.set_cons_zero, hv5, hv6, hv7, hv8]
  clear hv5 hv6 hv7 hv8 hgr B3 B2
  go_wp2_with fail
  refine bodyPost_ret (v := .tuple #[.agg #[.int .i64 m', .int .i64 s'], .int .i64 k, .bool good, .int .i64 most, .int .i64 pause]) (by simp [results, Try.results9, go_sem, r0, r1]) rfl ?_
  have q := q3.out
  exact ⟨m', s', k, good, most, pause, rfl, m1', m2', s1', s2', k1, k2, o1, o2, u1, u2, by go_grown⟩
end Go.Proofs.Ytdgfngcfodccmaa
