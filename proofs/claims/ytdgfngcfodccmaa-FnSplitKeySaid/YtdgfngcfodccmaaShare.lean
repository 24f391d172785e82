/- The draw of a share. No condition. -/
import Derived.Test.YtdgfngcfodccmaaDLaw
namespace Go.Proofs.Ytdgfngcfodccmaa
open Go.RowKit
variable {D : Nat}
/-- A number in a range is drawn; besides the reader nothing that was there has turned. -/
def RetI (D : Nat) (w : World) (g p m : Nat) (lo hi : Int) (e : Ending) (w' : World) : Prop :=
  ∃ k : Int, e = .returned (.int .i64 k) ∧ lo ≤ k ∧ k ≤ hi ∧ (∃ p', p' ≤ p + m ∧ Rd D w' g p') ∧ w.grownBy w' (some g)
set_option maxHeartbeats 1000000 in
theorem s_l20Share (g p : Nat) (w : World) (h : Rd D w g p) (hp : p ≤ 10000) :
    Calls Try.prog 47 #[.pointer (some ⟨g, 0, none⟩)] w (RetI D w g p 2 (-1) 101) := by
  have HR := Lib.hid h
  clear h
  go_enter Try.func47, Try.ntmps47
  go_wp2_with fail
  refine (c_pick g p 101 _ HR.out (by omega) (by omega) (by omega)).mono ?_
  rintro e w2 ⟨x, rfl, x0, x1, _, hr2, hg2⟩
  have x1 := x1 (by omega)
  have HR2 := Lib.hid hr2
  have HG2 := Lib.hid hg2
  clear hr2 hg2
  go_wp2_with fail
  have hR3 := HR2.out.keep (grownBy_alloc w2 none (.cells #[.int .i64 x, .int .i64 0, .int .i64 100, .int .i64 101, .int .i64 (-1)] 3))
  refine (c_pick g (p + 1) 8 _ (hR3.keep (grownBy_alloc _ _ _)) (by omega) (by omega) (by omega)).mono ?_
  rintro e w4 ⟨z, rfl, z0, z1, _, hr4, hg4⟩
  have z1 := z1 (by omega)
  have hlt : g < w2.heap.size := HR2.out.lt
  have B1 := Lib.hid (((Box.new w2 3 [.int .i64 x, .int .i64 0, .int .i64 100, .int .i64 101, .int .i64 (-1)]).alloc (.cells #[.int .i64 0, .int .i64 0, .int .i64 0, .int .i64 0, .int .i64 1, .int .i64 2, .int .i64 3, .int .i64 4] 3)).by hg4 (by omega))
  have B2 := Lib.hid ((Box.new (w2.alloc (.cells #[.int .i64 x, .int .i64 0, .int .i64 100, .int .i64 101, .int .i64 (-1)] 3)) 3 [.int .i64 0, .int .i64 0, .int .i64 0, .int .i64 0, .int .i64 1, .int .i64 2, .int .i64 3, .int .i64 4]).by hg4 (by simp; omega))
  have HG4 := Lib.hid (grownBy_tr (gb_alloc (gb_alloc HG2.out (.cells #[.int .i64 x, .int .i64 0, .int .i64 100, .int .i64 101, .int .i64 (-1)] 3)) (.cells #[.int .i64 0, .int .i64 0, .int .i64 0, .int .i64 0, .int .i64 1, .int .i64 2, .int .i64 3, .int .i64 4] 3)) hg4)
  have HR4 := Lib.hid hr4
  clear hr4 hg4 hR3 HR HR2 HG2
  have u0 := B1.out.cell 0
  have u1 := B1.out.cell 1
  have u2 := B1.out.cell 2
  have u3 := B1.out.cell 3
  have u4 := B1.out.cell 4
  have v0 := B2.out.cell 0
  have v1 := B2.out.cell 1
  have v2 := B2.out.cell 2
  have v3 := B2.out.cell 3
  have v4 := B2.out.cell 4
  have v5 := B2.out.cell 5
  have v6 := B2.out.cell 6
  have v7 := B2.out.cell 7
  simp only [List.getElem?_cons_zero, List.getElem?_cons_succ, World.size_alloc] at u0 u1 u2 u3 u4 v0 v1 v2 v3 v4 v5 v6 v7
  have hz : z = 0 ∨ z = 1 ∨ z = 2 ∨ z = 3 ∨ z = 4 ∨ z = 5 ∨ z = 6 ∨ z = 7 := by omega
  clear z0 z1
  rcases hz with rfl | rfl | rfl | rfl | rfl | rfl | rfl | rfl
  all_goals
    go_wp2_with fail
    go_ret
    exact ⟨_, rfl, by omega, by omega, ⟨p + 1 + 1, by omega, HR4.out⟩, HG4.out⟩
end Go.Proofs.Ytdgfngcfodccmaa
