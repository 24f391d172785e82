/- The draw of a key. No condition. -/
import Derived.Test.YtdgfngcfodccmaaShare
namespace Go.Proofs.Ytdgfngcfodccmaa
open Go.RowKit
variable {D : Nat}
set_option maxHeartbeats 1000000 in
theorem s_l20Key (g p : Nat) (n : Int) (w : World) (h : Rd D w g p) (hp : p ≤ 10000) (n1 : 0 ≤ n) (n2 : n ≤ 1000) :
    Calls Try.prog 50 #[.pointer (some ⟨g, 0, none⟩), .int .i64 n] w (RetI D w g p 4 (-1) 1000003) := by
  have HR := Lib.hid h
  clear h
  go_enter Try.func50, Try.ntmps50
  go_wp2_with fail
  refine (c_odd g p n _ HR.out (by omega) (by omega) (by omega)).mono ?_
  rintro e w1 ⟨od, rfl, ⟨p1, hp1, hr1⟩, hg1⟩
  have HR1 := Lib.hid hr1
  have HG1 := Lib.hid hg1
  clear hr1 hg1
  have hlt1 : g < w1.heap.size := HR1.out.lt
  cases od
  · go_wp2_with fail
    refine (c_pick g p1 256 _ HR1.out (by omega) (by omega) (by omega)).mono ?_
    rintro e w2 ⟨x, rfl, x0, x1, _, hr2, hg2⟩
    have x1 := x1 (by omega)
    have HR2 := Lib.hid hr2
    have HG2 := Lib.hid (grownBy_tr HG1.out hg2)
    clear hr2 hg2
    have hwx : IntKind.i64.wrap (x * 3900) = x * 3900 := IntWalk.i64_in _ (by omega)
    go_wp2_with fail
    refine (c_pick g (p1 + 1) 256 _ HR2.out (by omega) (by omega) (by omega)).mono ?_
    rintro e w3 ⟨y, rfl, y0, y1, _, hr3, hg3⟩
    have y1 := y1 (by omega)
    have HR3 := Lib.hid hr3
    have HG3 := Lib.hid (grownBy_tr HG2.out hg3)
    clear hr3 hg3 hwx
    go_wp2_with fail
    have hR3 := HR3.out.keep (grownBy_alloc w3 none (.cells #[.int .i64 (x * 3900), .int .i64 y, .int .i64 1000002] 3))
    refine (c_pick g (p1 + 2) 5 _ (hR3.keep (grownBy_alloc _ _ _)) (by omega) (by omega) (by omega)).mono ?_
    rintro e w4 ⟨z, rfl, z0, z1, _, hr4, hg4⟩
    have z1 := z1 (by omega)
    have hlt : g < w3.heap.size := HR3.out.lt
    have B1 := Lib.hid (((Box.new w3 3 [.int .i64 (x * 3900), .int .i64 y, .int .i64 1000002]).alloc (.cells #[.int .i64 0, .int .i64 0, .int .i64 0, .int .i64 1, .int .i64 2] 3)).by hg4 (by omega))
    have B2 := Lib.hid ((Box.new (w3.alloc (.cells #[.int .i64 (x * 3900), .int .i64 y, .int .i64 1000002] 3)) 3 [.int .i64 0, .int .i64 0, .int .i64 0, .int .i64 1, .int .i64 2]).by hg4 (by simp; omega))
    have HG4 := Lib.hid (grownBy_tr (gb_alloc (gb_alloc HG3.out (.cells #[.int .i64 (x * 3900), .int .i64 y, .int .i64 1000002] 3)) (.cells #[.int .i64 0, .int .i64 0, .int .i64 0, .int .i64 1, .int .i64 2] 3)) hg4)
    have HR4 := Lib.hid hr4
    clear hr4 hg4 hR3 HR HR2 HR3 HG2 HG3
    have u0 := B1.out.cell 0
    have u1 := B1.out.cell 1
    have u2 := B1.out.cell 2
    have v0 := B2.out.cell 0
    have v1 := B2.out.cell 1
    have v2 := B2.out.cell 2
    have v3 := B2.out.cell 3
    have v4 := B2.out.cell 4
    simp only [List.getElem?_cons_zero, List.getElem?_cons_succ, World.size_alloc] at u0 u1 u2 v0 v1 v2 v3 v4
    have hz : z = 0 ∨ z = 1 ∨ z = 2 ∨ z = 3 ∨ z = 4 := by omega
    clear z0 z1
    rcases hz with rfl | rfl | rfl | rfl | rfl
    all_goals
      go_wp2_with fail
      go_ret
      exact ⟨_, rfl, by omega, by omega, ⟨p1 + 2 + 1, by omega, HR4.out⟩, HG4.out⟩
  · go_wp2_with fail
    refine (c_pick g p1 2 _ (HR1.out.keep (grownBy_alloc _ _ _)) (by omega) (by omega) (by omega)).mono ?_
    rintro e w4 ⟨z, rfl, z0, z1, _, hr4, hg4⟩
    have z1 := z1 (by omega)
    have B1 := Lib.hid ((Box.new w1 3 [.int .i64 (-1), .int .i64 1000003]).by hg4 (by omega))
    have HG4 := Lib.hid (grownBy_tr (gb_alloc HG1.out (.cells #[.int .i64 (-1), .int .i64 1000003] 3)) hg4)
    have HR4 := Lib.hid hr4
    clear hr4 hg4 HR
    have u0 := B1.out.cell 0
    have u1 := B1.out.cell 1
    simp only [List.getElem?_cons_zero, List.getElem?_cons_succ] at u0 u1
    have hz : z = 0 ∨ z = 1 := by omega
    clear z0 z1
    rcases hz with rfl | rfl
    all_goals
      go_wp2_with fail
      go_ret
      exact ⟨_, rfl, by omega, by omega, ⟨p1 + 1, by omega, HR4.out⟩, HG4.out⟩
end Go.Proofs.Ytdgfngcfodccmaa
