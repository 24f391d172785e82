/- The draw of a breaker: whatever is drawn is a breaker of small numbers. -/
import Derived.Test.YtdgfngcfodccmaaTyU
namespace Go.Proofs.Ytdgfngcfodccmaa
open Go.RowKit
variable {D B : Nat}
theorem sok : SOk 24 := by
  refine ⟨fun o ρ w x y m n ho hx hy => ?_, fun o ρ w ho => ?_, fun o ρ w x b m n ho hx h0 h1 => ?_, fun o ρ w x b i hi ho hx => ?_⟩
  · simp [execOp, ho, hx, hy, ints, go_sem]
  · simp [execOp, ho, ints, go_sem]
  · simp [execOp, ho, hx, h0, h1, ints, go_sem]
  · match i, hi with
    | 0, _ => simp [execOp, ho, hx, go_sem]
    | 1, _ => simp [execOp, ho, hx, go_sem]
theorem Bds.two {p q : Int × Int} {xs : List Int} (h : Bds [p, q] xs) : ∃ m n, xs = [m, n] ∧ p.1 ≤ m ∧ m ≤ p.2 ∧ q.1 ≤ n ∧ n ≤ q.2 := by
  match xs, h with
  | [m, n], h => exact ⟨m, n, rfl, h.1, h.2.1, h.2.2.1, h.2.2.2.1⟩
/-- A breaker of small numbers is drawn; besides the reader nothing that was there has turned. -/
def RetS2 (D : Nat) (w : World) (g p : Nat) (e : Ending) (w' : World) : Prop :=
  ∃ m s : Int, e = .returned (.agg #[.int .i64 m, .int .i64 s]) ∧ -1 ≤ m ∧ m ≤ 101 ∧ -1 ≤ s ∧ s ≤ 200001 ∧ (∃ p', p' ≤ p + 100 ∧ Rd D w' g p') ∧ w.grownBy w' (some g)
set_option maxHeartbeats 2000000 in
theorem s_l20Breaker (g p : Nat) (n : Int) (w : World) (h : Rd D w g p) (hp : p ≤ 10000) (n1 : 0 ≤ n) (n2 : n ≤ 1000) :
    Calls Try.prog 34 #[.pointer (some ⟨g, 0, none⟩), .int .i64 n] w (RetS2 D w g p) := by
  have hglt := h.lt
  have HR := Lib.hid h
  clear h
  go_enter Try.func34, Try.ntmps34
  go_wp2_with fail
  refine region_checked _ 24 true 12 30 g p [(0, .rd)] [(0, .rd), (6, .rd), (7, .int 0 4), (8, .sl [(0, 4), (100, 100)]), (9, .rd), (10, .int 0 5), (11, .int 0 1), (12, .pt 0 100), (13, .int 0 100), (14, .rd), (15, .int 0 99), (16, .agg [(0, 100), (0, 99)]), (5, .nb 24 [(0, 0), (0, 0)])] [6, 7, 8, 9, 10, 11, 12, 13, 14, 15, 16, 5] rfl (by kernel_rfl) (fun _ => sok) (by simp [Ty.Has]) (HR.out.keep (grownBy_alloc _ _ _)) (by omega) ?_
  intro f w1 hf hgr hrd
  obtain ⟨xs, hv, hbd⟩ := hf 16 (by decide)
  obtain ⟨b, ys, hv5, hBb, hDb, hbg, hh, hbd5⟩ := hf 5 (by decide)
  obtain ⟨m, s, rfl, m1, m2, s1, s2⟩ := Bds.two hbd
  obtain ⟨y0, y1, rfl, _⟩ := Bds.two hbd5
  clear hf hbd hbd5
  have m1 : 0 ≤ m := m1
  have m2 : m ≤ 100 := m2
  have s1 : 0 ≤ s := s1
  have s2 : s ≤ 99 := s2
  obtain ⟨p1, hp1, hr1⟩ := hrd
  have c0 := cell_of_row w1 b 0 _ _ _ hh
  have c1 := cell_of_row w1 b 1 _ _ _ hh
  have f0 := frozen_of_row w1 b 0 _ _ hh
  have f1 := frozen_of_row w1 b 1 _ _ hh
  simp only [ints, List.map, List.getElem?_toArray, List.getElem?_cons_zero, List.getElem?_cons_succ] at c0 c1 hv
  have HH := Lib.hid hh
  have HR1 := Lib.hid hr1
  have HG := Lib.hid hgr
  clear hh hr1 hgr
  simp only [List.drop_succ_cons, List.drop_zero, putL, Act.put, List.setIfInBounds_toArray, List.set_cons_succ, List.set_cons_zero, hv, hv5]
  clear hv hv5
  simp only [World.size_alloc] at hBb
  have hne0 : w.heap.size ≠ b := by omega
  have hgB : w.heap.size ≠ g := by omega
  have HB0 := Lib.hid (show Box w1 w.heap.size 24 [.int .i64 0, .int .i64 0] from (Box.new w 24 [.int .i64 0, .int .i64 0]).by HG.out hgB)
  have HG1 := Lib.hid (grownBy_tr (grownBy_alloc w (some g) _) HG.out)
  go_wp2_with fail
  have HB2 := Lib.hid ((HB0.out.other (p := ⟨b, 0, none⟩) hne0 (.int .i64 m)).other (p := ⟨b, 1, none⟩) hne0 (.int .i64 s))
  have HT2 := Lib.hid ((Box.set (vs := [.int .i64 y0, .int .i64 y1]) HH.out 0 (.int .i64 m)).set 1 (.int .i64 s))
  have HG2 := Lib.hid (gb_set (gb_set HG1.out (b := b) (by omega) 0 (.int .i64 m)) (b := b) (by omega) 1 (.int .i64 s))
  have hD0 : D ≤ w.heap.size := by have := HR.out.1; omega
  refine (c_odd g p1 n _ ((HR1.out.other hDb hbg _ _).other hDb hbg _ _) (by omega) (by omega) (by omega)).mono ?_
  rintro e w3 ⟨od, rfl, ⟨p3, hp3, hr3⟩, hg3⟩
  have HG3 := Lib.hid (grownBy_tr HG2.out hg3)
  have HB3 := Lib.hid (HB2.out.by hg3 hgB)
  have HT3 := Lib.hid (HT2.out.by hg3 hbg)
  have HR3 := Lib.hid hr3
  clear hg3 hr3 c0 c1 f0 f1 HB2 HT2 HG2 HG1 HB0 HG HH HR1
  have t0 := HT3.out.cell 0
  have t1 := HT3.out.cell 1
  have r0 := HB3.out.cell 0
  have r1 := HB3.out.cell 1
  have r2 := HB3.out.frozen 0
  have r3 := HB3.out.frozen 1
  simp only [List.set_cons_zero, List.set_cons_succ, List.getElem?_cons_zero, List.getElem?_cons_succ] at t0 t1 r0 r1
  cases od
  · go_wp2_with fail
    refine bodyPost_ret (v := .agg #[.int .i64 m, .int .i64 s]) (by simp [results, Try.results34, go_sem, r0, r1]) rfl ?_
    refine ⟨m, s, rfl, by omega, by omega, by omega, by omega, ⟨p3, by omega, (HR3.out.other hD0 hgB _ _).other hD0 hgB _ _⟩, gb_set (gb_set HG3.out (Nat.le_refl _) _ _) (Nat.le_refl _) _ _⟩
  · go_wp2_with fail
    refine (c_pick g p3 4 _ (HR3.out.keep (grownBy_alloc _ _ _)) (by omega) (by omega) (by omega)).mono ?_
    rintro e w4 ⟨x, rfl, x1, x2, _, hr4, hg4⟩
    have x3 := x2 (by omega)
    have HR4 := Lib.hid hr4
    have hw3 := HB3.out.lt
    have hgs : g < w3.heap.size := HR3.out.lt
    have HL := Lib.hid ((Box.new w3 24 [.int .i64 (-1), .int .i64 0, .int .i64 101, .int .i64 0, .int .i64 0, .int .i64 (-1), .int .i64 0, .int .i64 200001]).by hg4 (by omega))
    have HB4 := Lib.hid ((HB3.out.alloc (.cells #[.int .i64 (-1), .int .i64 0, .int .i64 101, .int .i64 0, .int .i64 0, .int .i64 (-1), .int .i64 0, .int .i64 200001] 24)).by hg4 hgB)
    have HG4 := Lib.hid (grownBy_tr (gb_alloc HG3.out _) hg4)
    clear hg4 hr4 x2 r0 r1 r2 r3 t0 t1 HB3 HT3 HG3
    have l0 := HL.out.cell 0
    have l1 := HL.out.cell 1
    have l2 := HL.out.cell 2
    have l3 := HL.out.cell 3
    have l4 := HL.out.cell 4
    have l5 := HL.out.cell 5
    have l6 := HL.out.cell 6
    have l7 := HL.out.cell 7
    have r0 := HB4.out.cell 0
    have r1 := HB4.out.cell 1
    have r2 := HB4.out.frozen 0
    have r3 := HB4.out.frozen 1
    simp only [List.getElem?_cons_zero, List.getElem?_cons_succ] at l0 l1 l2 l3 l4 l5 l6 l7 r0 r1
    have hx : x = 0 ∨ x = 1 ∨ x = 2 ∨ x = 3 := by omega
    clear x1 x3
    rcases hx with rfl | rfl | rfl | rfl
    all_goals
      go_wp2_with fail
    · refine bodyPost_ret (v := .agg #[.int .i64 (-1), .int .i64 0]) (by simp [results, Try.results34, go_sem, r0, r1]) rfl ?_
      exact ⟨(-1), 0, rfl, by omega, by omega, by omega, by omega, ⟨p3 + 1, by omega, (HR4.out.other hD0 hgB _ _).other hD0 hgB _ _⟩, gb_set (gb_set HG4.out (Nat.le_refl _) _ _) (Nat.le_refl _) _ _⟩
    · refine bodyPost_ret (v := .agg #[.int .i64 101, .int .i64 0]) (by simp [results, Try.results34, go_sem, r0, r1]) rfl ?_
      exact ⟨101, 0, rfl, by omega, by omega, by omega, by omega, ⟨p3 + 1, by omega, (HR4.out.other hD0 hgB _ _).other hD0 hgB _ _⟩, gb_set (gb_set HG4.out (Nat.le_refl _) _ _) (Nat.le_refl _) _ _⟩
    · refine bodyPost_ret (v := .agg #[.int .i64 0, .int .i64 (-1)]) (by simp [results, Try.results34, go_sem, r0, r1]) rfl ?_
      exact ⟨0, (-1), rfl, by omega, by omega, by omega, by omega, ⟨p3 + 1, by omega, (HR4.out.other hD0 hgB _ _).other hD0 hgB _ _⟩, gb_set (gb_set HG4.out (Nat.le_refl _) _ _) (Nat.le_refl _) _ _⟩
    · refine bodyPost_ret (v := .agg #[.int .i64 0, .int .i64 200001]) (by simp [results, Try.results34, go_sem, r0, r1]) rfl ?_
      exact ⟨0, 200001, rfl, by omega, by omega, by omega, by omega, ⟨p3 + 1, by omega, (HR4.out.other hD0 hgB _ _).other hD0 hgB _ _⟩, gb_set (gb_set HG4.out (Nat.le_refl _) _ _) (Nat.le_refl _) _ _⟩
end Go.Proofs.Ytdgfngcfodccmaa
