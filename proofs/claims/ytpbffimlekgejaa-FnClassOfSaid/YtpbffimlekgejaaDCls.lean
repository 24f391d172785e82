/- The walk of the law FnClassOf: true for all bytes. No condition. -/
import Derived.Test.YtpbffimlekgejaaDLaw
import Derived.Test.YtpbffimlekgejaaClass
namespace Go.Proofs.Ytpbffimlekgejaa
open Go.RowKit
/-- A number in a range; nothing that was there has turned. -/
def RetN (w : World) (lo hi : Int) (e : Ending) (w' : World) : Prop := ∃ k : Int, e = .returned (.int .i64 k) ∧ lo ≤ k ∧ k ≤ hi ∧ Below w.heap.size w w'
set_option maxHeartbeats 1000000 in
theorem s_DrawClassOf (a : Option Addr) (len cap : Nat) (w : World) (hcl : len ≤ cap) (hcap : cap ≤ maxLen) (h : Code w.heap.size w a len) :
    Calls Try.prog 27 #[.slice a len cap] w (RetN w (-1) 100000) := by
  have HC := Lib.hid h
  clear h
  go_enter Try.func27, Try.ntmps27
  go_wp2_with fail
  refine (c_open (D := w.heap.size) a len cap _ hcl hcap (by simp) HC.out).mono ?_
  rintro e w1 ⟨g, rfl, hg, hr, hb⟩
  have HR := Lib.hid hr
  have HB := Lib.hid hb
  have hz := hb.size
  clear hr hb
  go_wp2_with fail
  refine (c_pick g 0 256 _ HR.out (by omega) (by omega) (by omega)).mono ?_
  rintro e w2 ⟨x, rfl, x0, x1, _, hr2, hg2⟩
  have x1 := x1 (by omega)
  have HR2 := Lib.hid hr2
  have HG2 := Lib.hid hg2
  clear hr2 hg2
  go_wp2_with fail
  refine (c_pick g 1 256 _ HR2.out (by omega) (by omega) (by omega)).mono ?_
  rintro e w3 ⟨y, rfl, y0, y1, _, hr3, hg3⟩
  have y1 := y1 (by omega)
  have HR3 := Lib.hid hr3
  have HG3 := Lib.hid (grownBy_tr HG2.out hg3)
  clear hr3 hg3
  have hwy : IntKind.i64.wrap (y * 40) = y * 40 := IntWalk.i64_in _ (by omega)
  go_wp2_with fail
  have hR3 := HR3.out.keep (grownBy_alloc w3 none (.cells #[.int .i64 x, .int .i64 (y * 40), .int .i64 0, .int .i64 100000, .int .i64 (-1)] 3))
  refine (c_pick g 2 7 _ (hR3.keep (grownBy_alloc _ _ _)) (by omega) (by omega) (by omega)).mono ?_
  rintro e w4 ⟨z, rfl, z0, z1, _, hr4, hg4⟩
  have z1 := z1 (by omega)
  have hlt : g < w3.heap.size := HR3.out.lt
  have B1 := Lib.hid (((Box.new w3 3 [.int .i64 x, .int .i64 (y * 40), .int .i64 0, .int .i64 100000, .int .i64 (-1)]).alloc (.cells #[.int .i64 0, .int .i64 0, .int .i64 1, .int .i64 1, .int .i64 2, .int .i64 3, .int .i64 4] 3)).by hg4 (by omega))
  have B2 := Lib.hid ((Box.new (w3.alloc (.cells #[.int .i64 x, .int .i64 (y * 40), .int .i64 0, .int .i64 100000, .int .i64 (-1)] 3)) 3 [.int .i64 0, .int .i64 0, .int .i64 1, .int .i64 1, .int .i64 2, .int .i64 3, .int .i64 4]).by hg4 (by simp; omega))
  have HG4 := Lib.hid (gb_below (grownBy_tr (gb_alloc (gb_alloc HG3.out (.cells #[.int .i64 x, .int .i64 (y * 40), .int .i64 0, .int .i64 100000, .int .i64 (-1)] 3)) (.cells #[.int .i64 0, .int .i64 0, .int .i64 1, .int .i64 1, .int .i64 2, .int .i64 3, .int .i64 4] 3)) hg4) (Nat.le_trans (Nat.le_refl _) hz) hg)
  have q := Lib.hid (HB.out.trans HG4.out)
  clear hr4 hg4 hR3 HR HR2 HR3 HG2 HG3 HB HG4 hwy
  have u0 := B1.out.cell 0
  have u1 := B1.out.cell 1
  have u2 := B1.out.cell 2
  have u3 := B1.out.cell 3
  have u4 := B1.out.cell 4
  have v0 := B2.out.cell 0
  have v1 := B2.out.cell 1
  have v2 := B2.out.cell 2
  have v3 := B2.out.cell 3
  have v4 := B2.out.cell 4
  have v5 := B2.out.cell 5
  have v6 := B2.out.cell 6
  simp only [List.getElem?_cons_zero, List.getElem?_cons_succ, World.size_alloc] at u0 u1 u2 u3 u4 v0 v1 v2 v3 v4 v5 v6
  have hz : z = 0 ∨ z = 1 ∨ z = 2 ∨ z = 3 ∨ z = 4 ∨ z = 5 ∨ z = 6 := by omega
  clear z0 z1
  rcases hz with rfl | rfl | rfl | rfl | rfl | rfl | rfl
  all_goals
    go_wp2_with fail
    go_ret
    exact ⟨_, rfl, by omega, by omega, q.out⟩
theorem halves_min : ∀ (f n : Nat), halves f n = min f (halves (f + 1) n)
  | 0, n => by simp [halves]
  | f + 1, n => by
    have ih := halves_min f (n / 2)
    rw [halves, halves]
    split
    · omega
    · omega
theorem cls_law {n : Int} (h : 1 ≤ n) : 1 ≤ cls n ∧ cls n ≤ 12 ∧ cls (2 * n) = min 12 (cls n + 1) := by
  have e1 : cls n = halves 12 n.toNat := by rw [cls, if_neg (by omega)]
  have e2 : cls (2 * n) = halves 12 (2 * n.toNat) := by rw [cls, if_neg (by omega)]; congr 2; omega
  have h0 : n.toNat ≠ 0 := by omega
  have e3 : halves 12 (2 * n.toNat) = 1 + halves 11 n.toNat := by
    rw [halves, if_neg (by omega)]; congr 2; omega
  have e4 : halves 11 n.toNat = min 11 (halves 12 n.toNat) := halves_min 11 n.toNat
  have e5 := halves_le 12 n.toNat
  have e6 : 1 ≤ halves 12 n.toNat := by rw [halves, if_neg h0]; omega
  rw [e1, e2, e3]
  omega
theorem cls_zero : cls 0 = 0 := by decide
theorem cls_neg : cls (-1) = -1 := by decide
set_option maxHeartbeats 1000000 in
theorem walkClassOf (a : Option Addr) (n cap : Nat) (z : List Int) (w : World) (w0 : IsRow .u8 w a n cap z) :
    Calls Try.prog 8 #[.slice a n cap] w fun e w' => e = .returned (.bool true) ∧ Below w.heap.size w w' := by
  by_cases hbig : 1048576 < n
  · have hb' : (1048576 : Int) < (n : Int) := by omega
    go_enter Try.func8, Try.ntmps8
    go_wp2
    go_ret
    exact ⟨rfl, Below.refl _ _⟩
  have hn' : (n : Int) ≤ 1048576 := by omega
  obtain ⟨hcl, hcap⟩ := w0.caps
  have HC := Lib.hid w0.code
  clear w0 hbig
  go_enter Try.func8, Try.ntmps8
  go_wp2_with fail
  refine (s_DrawClassOf a n cap _ hcl hcap HC.out).mono ?_
  rintro e w1 ⟨k, rfl, k1, k2, b1⟩
  have Q1 := Lib.hid b1
  have z1 := b1.size
  clear b1
  go_wp2_with fail
  refine (c_ClassOf k _ (by omega) (by omega)).mono ?_; rintro e w' ⟨rfl, rfl⟩
  go_wp2_with fail
  refine (s_ClassOf k _ (by omega) (by omega)).mono ?_; rintro e w' ⟨rfl, rfl⟩
  have hk : k = -1 ∨ k = 0 ∨ 1 ≤ k := by omega
  rcases hk with rfl | rfl | hk
  · rw [cls_neg]
    go_wp2_with fail
    refine (c_alive _).mono ?_; rintro e w6 ⟨rfl, b6⟩
    have Q6 := Below.step Q1.out b6 (by omega)
    go_wp2_with fail
    go_ret
    exact ⟨rfl, Q6⟩
  · rw [cls_zero]
    go_wp2_with fail
    refine (c_alive _).mono ?_; rintro e w6 ⟨rfl, b6⟩
    have Q6 := Below.step Q1.out b6 (by omega)
    go_wp2_with fail
    go_ret
    exact ⟨rfl, Q6⟩
  · obtain ⟨c1, c2, c3⟩ := cls_law hk
    have HC3 := Lib.hid c3
    clear c3
    generalize cls k = c at *
    have hw1 : IntKind.i64.wrap (2 * k) = 2 * k := IntWalk.i64_in _ (by omega)
    go_wp2_with fail
    refine (c_ClassOf (2 * k) _ (by omega) (by omega)).mono ?_; rintro e w' ⟨rfl, rfl⟩
    rw [HC3.out]
    go_wp2_with fail
    all_goals
      go_ret
      exact ⟨ret_bool (by simp; try omega), Q1.out⟩
end Go.Proofs.Ytpbffimlekgejaa
