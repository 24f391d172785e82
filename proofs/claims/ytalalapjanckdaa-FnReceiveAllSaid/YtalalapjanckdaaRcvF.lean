/- Contract of the program's Receive: numbers that come too early or too late. No condition but lists of at most 10^6 numbers. -/
import Derived.Test.YtalalapjanckdaaRcvR
namespace Go.Proofs.Ytalalapjanckdaa
open Go.RowKit
theorem countP_le (xs : List Int) (x : Int) : xs.countP (· < x) ≤ xs.length := List.countP_le_length
set_option maxHeartbeats 1600000 in
theorem c_Rc_far (N R : Int) (a : Option Addr) (n cap : Nat) (xs : List Int) (x : Int) (w : World) (hxs : xs.length = n) (hn : n ≤ 1000000) (h : Ints w a xs) (ha : a = none → n = 0 ∧ cap = 0) (hv : rv N R xs = true) (h1 : ¬ x < N) (h2 : xs.contains x = false) (h3 : N + R ≤ x) :
    Calls Try.prog 29 #[.agg #[.int .i64 N, .int .i64 R, .slice a n cap], .int .i64 x] w (RetRc w (rcv N R xs x)) := by
  rw [rcv_far hv h1 h2 h3]
  obtain ⟨⟨b1, b2⟩, ⟨b3, b4⟩, -, -⟩ := (rv_iff N R xs).1 hv
  obtain ⟨W0, hW, g0, hs, bx, bY⟩ := head2 (N := N) (R := R) (a := a) (n := n) (cap := cap) w
  have HX := Lib.hid hxs
  have HW := Lib.hid hW
  have HG := Lib.hid g0
  have HS := Lib.hid hs
  have HI := Lib.hid (h.below g0)
  have HA := Lib.hid ha
  have HBx := Lib.hid bx
  have HBy := Lib.hid bY
  have HP := Lib.hid (rv_le hv)
  clear hxs hW g0 hs h ha bx bY
  go_enter Try.func29, Try.ntmps29
  go_wp2_with fail
  rw [← HW.out]
  refine (c_ReceiverValid N R a n cap xs _ HX.out (by omega) HI.out).mono ?_; rintro e w1 ⟨rfl, b1⟩
  rw [hv]
  have B1 : Hid (Below w.heap.size w w1) := Lib.hid (HG.out.trans (b1.mono (by rw [HS.out]; omega)))
  have z1 := b1.size
  rw [HS.out] at z1
  have Bx1 := Lib.hid (HBx.out.keep b1)
  have By1 := Lib.hid (HBy.out.keep b1)
  have I1 := Lib.hid (HI.out.below b1)
  obtain ⟨x0, x1, x2, fx⟩ := Bx1.out.three
  clear b1 fx
  go_wp2_with fail
  refine (c_cloneR N R a n cap xs _ HX.out (by omega) I1.out HA.out).mono ?_; rintro e w2 ⟨a', c', rfl, o2, g2⟩
  rw [HX.out] at o2 ⊢
  have O2 := Lib.hid o2
  have G2 := Lib.hid (grown_below g2)
  have z2 := g2.size
  obtain ⟨W3, hW3⟩ : ∃ W3, W3 = w2.alloc (.cells #[.int .i64 N, .int .i64 R, .slice a' n c'] 52) := ⟨_, rfl⟩
  have HW3 := Lib.hid hW3
  have z3 : W3.heap.size = w2.heap.size + 1 := by rw [hW3]; simp
  have B3 : Hid (Below w.heap.size w W3) := Lib.hid (by rw [hW3]; exact (B1.out.trans (G2.out.mono (by omega))).alloc (by omega) _)
  have Bx3 : Hid (Box W3 w.heap.size 52 [.int .i64 N, .int .i64 R, .slice a n cap]) := Lib.hid (by rw [hW3]; exact (Bx1.out.keep G2.out).alloc _)
  have By3 : Hid (Box W3 (w.heap.size + 1) 52 [.int .i64 0, .int .i64 0, .slice none 0 0]) := Lib.hid (by rw [hW3]; exact (By1.out.keep G2.out).alloc _)
  have Bu3 : Hid (Box W3 w2.heap.size 52 [.int .i64 N, .int .i64 R, .slice a' n c']) := Lib.hid (by rw [hW3]; exact Box.new2 _ _ _ _ rfl)
  have I3 : Hid (Ints W3 a xs) := Lib.hid (by rw [hW3]; exact (I1.out.below G2.out).below ((Below.refl _ _).alloc (Nat.le_refl _) _))
  have O3 : Hid (W3.ownsRow w1.heap.size 3 1 (.slice a' n c') n (xs.map (Value.int .i64))) := Lib.hid (by rw [hW3]; exact O2.out.alloc _)
  have HZ3 := Lib.hid z3
  clear o2 g2 hW3 x0 x1 x2 z3
  go_wp2_with fail
  rw [← HW3.out]
  refine (c_BSearch a' n c' xs x _ HX.out (by omega) (own_ints O3.out).1 HP.out).mono ?_; rintro e w4 ⟨rfl, b4⟩
  have B4 : Hid (Below w.heap.size w w4) := Lib.hid (B3.out.trans (b4.mono (by rw [HZ3.out]; omega)))
  have z4 : w2.heap.size + 1 ≤ w4.heap.size := by have := b4.size; rw [HZ3.out] at this; exact this
  have Bx4 := Lib.hid (Bx3.out.keep b4)
  have By4 := Lib.hid (By3.out.keep b4)
  have Bu4 := Lib.hid (Bu3.out.keep b4)
  have I4 := Lib.hid (I3.out.below b4)
  have O4 := Lib.hid (row_below O3.out b4)
  have hlt4 : ∀ k, (Value.slice a' n c').ownBlock = some k → w1.heap.size ≤ k ∧ k < w2.heap.size := O2.out.lt
  have LT := Lib.hid hlt4
  clear b4 hlt4
  obtain ⟨x0, x1, x2, fx⟩ := Bx4.out.three
  obtain ⟨y0, y1, y2, fy⟩ := By4.out.three
  obtain ⟨u0, u1, u2, fu⟩ := Bu4.out.three
  rw [h2]
  clear h2 hv
  go_wp2
  refine bodyPost_ret (v := .tuple #[.agg #[.int .i64 N, .int .i64 R, .slice a' n c'], .slice none 0 0, .bool false]) (by simp [results, Try.results29, go_sem, y0, y1, y2]) rfl ?_
  obtain rfl := HX.out
  have hb := B4.out
  have hne : (Value.slice a' xs.length c').ownBlock ≠ some (w.heap.size + 1) := fun e => by have := (LT.out _ e).1; omega
  exact ⟨a', c', none, 0, rfl, row_wider (row_set (row_set (row_set O4.out _ _ hne) _ _ hne) _ _ hne) (by omega), row_nil _ _ _ _, fun k _ => by simp [Value.ownBlock], by go_grown⟩
set_option maxHeartbeats 1600000 in
theorem c_Rc_in (N R : Int) (a : Option Addr) (n cap : Nat) (xs : List Int) (x : Int) (w : World) (hxs : xs.length = n) (hn : n ≤ 1000000) (h : Ints w a xs) (ha : a = none → n = 0 ∧ cap = 0) (hv : rv N R xs = true) (h2 : xs.contains x = false) (h3 : x < N + R) (h4 : N < x) :
    Calls Try.prog 29 #[.agg #[.int .i64 N, .int .i64 R, .slice a n cap], .int .i64 x] w (RetRc w (rcv N R xs x)) := by
  rw [rcv_in hv h2 h3 h4]
  obtain ⟨⟨b1, b2⟩, ⟨b3, b4⟩, -, -⟩ := (rv_iff N R xs).1 hv
  have hcp := countP_le xs x
  obtain ⟨W0, hW, g0, hs, bx, bY⟩ := head2 (N := N) (R := R) (a := a) (n := n) (cap := cap) w
  have HX := Lib.hid hxs
  have HW := Lib.hid hW
  have HG := Lib.hid g0
  have HS := Lib.hid hs
  have HI := Lib.hid (h.below g0)
  have HA := Lib.hid ha
  have HBx := Lib.hid bx
  have HBy := Lib.hid bY
  have HP := Lib.hid (rv_le hv)
  clear hxs hW g0 hs h ha bx bY
  go_enter Try.func29, Try.ntmps29
  go_wp2_with fail
  rw [← HW.out]
  refine (c_ReceiverValid N R a n cap xs _ HX.out (by omega) HI.out).mono ?_; rintro e w1 ⟨rfl, b1⟩
  rw [hv]
  have B1 : Hid (Below w.heap.size w w1) := Lib.hid (HG.out.trans (b1.mono (by rw [HS.out]; omega)))
  have z1 := b1.size
  rw [HS.out] at z1
  have Bx1 := Lib.hid (HBx.out.keep b1)
  have By1 := Lib.hid (HBy.out.keep b1)
  have I1 := Lib.hid (HI.out.below b1)
  obtain ⟨x0, x1, x2, fx⟩ := Bx1.out.three
  clear b1 fx
  go_wp2_with fail
  refine (c_cloneR N R a n cap xs _ HX.out (by omega) I1.out HA.out).mono ?_; rintro e w2 ⟨a', c', rfl, o2, g2⟩
  rw [HX.out] at o2 ⊢
  have O2 := Lib.hid o2
  have G2 := Lib.hid (grown_below g2)
  have z2 := g2.size
  obtain ⟨W3, hW3⟩ : ∃ W3, W3 = w2.alloc (.cells #[.int .i64 N, .int .i64 R, .slice a' n c'] 52) := ⟨_, rfl⟩
  have HW3 := Lib.hid hW3
  have z3 : W3.heap.size = w2.heap.size + 1 := by rw [hW3]; simp
  have B3 : Hid (Below w.heap.size w W3) := Lib.hid (by rw [hW3]; exact (B1.out.trans (G2.out.mono (by omega))).alloc (by omega) _)
  have Bx3 : Hid (Box W3 w.heap.size 52 [.int .i64 N, .int .i64 R, .slice a n cap]) := Lib.hid (by rw [hW3]; exact (Bx1.out.keep G2.out).alloc _)
  have By3 : Hid (Box W3 (w.heap.size + 1) 52 [.int .i64 0, .int .i64 0, .slice none 0 0]) := Lib.hid (by rw [hW3]; exact (By1.out.keep G2.out).alloc _)
  have Bu3 : Hid (Box W3 w2.heap.size 52 [.int .i64 N, .int .i64 R, .slice a' n c']) := Lib.hid (by rw [hW3]; exact Box.new2 _ _ _ _ rfl)
  have I3 : Hid (Ints W3 a xs) := Lib.hid (by rw [hW3]; exact (I1.out.below G2.out).below ((Below.refl _ _).alloc (Nat.le_refl _) _))
  have O3 : Hid (W3.ownsRow w1.heap.size 3 1 (.slice a' n c') n (xs.map (Value.int .i64))) := Lib.hid (by rw [hW3]; exact O2.out.alloc _)
  have HZ3 := Lib.hid z3
  clear o2 g2 hW3 x0 x1 x2 z3
  go_wp2_with fail
  rw [← HW3.out]
  refine (c_BSearch a' n c' xs x _ HX.out (by omega) (own_ints O3.out).1 HP.out).mono ?_; rintro e w4 ⟨rfl, b4⟩
  have B4 : Hid (Below w.heap.size w w4) := Lib.hid (B3.out.trans (b4.mono (by rw [HZ3.out]; omega)))
  have z4 : w2.heap.size + 1 ≤ w4.heap.size := by have := b4.size; rw [HZ3.out] at this; exact this
  have Bx4 := Lib.hid (Bx3.out.keep b4)
  have By4 := Lib.hid (By3.out.keep b4)
  have Bu4 := Lib.hid (Bu3.out.keep b4)
  have I4 := Lib.hid (I3.out.below b4)
  have O4 := Lib.hid (row_below O3.out b4)
  have hlt4 : ∀ k, (Value.slice a' n c').ownBlock = some k → w1.heap.size ≤ k ∧ k < w2.heap.size := O2.out.lt
  have LT := Lib.hid hlt4
  clear b4 hlt4
  rw [HX.out] at hcp
  have HQ := Lib.hid (rfl : xs.countP (· < x) = xs.countP (· < x))
  generalize hat : xs.countP (· < x) = at' at hcp HQ ⊢
  have HAT := Lib.hid hat
  clear HQ hat
  obtain ⟨x0, x1, x2, fx⟩ := Bx4.out.three
  obtain ⟨u0, u1, u2, fu⟩ := Bu4.out.three
  rw [h2]
  clear h2 hv
  obtain ⟨W5, hW5⟩ : ∃ W5, W5 = w4.alloc (.cells #[.int .i64 x] 3) := ⟨_, rfl⟩
  have HW5 := Lib.hid hW5
  have hs5 : W5.heap.size = w4.heap.size + 1 := by rw [hW5]; simp
  have O5 : Hid (W5.ownsRow w1.heap.size 3 1 (.slice a' n c') n (xs.map (Value.int .i64))) := Lib.hid (by rw [hW5]; exact O4.out.alloc _)
  have BV5 : Hid (Box W5 w4.heap.size 3 [.int .i64 x]) := Lib.hid (by rw [hW5]; exact Box.new2 _ _ _ _ rfl)
  have Bx5 : Hid (Box W5 w.heap.size 52 [.int .i64 N, .int .i64 R, .slice a n cap]) := Lib.hid (by rw [hW5]; exact Bx4.out.alloc _)
  have By5 : Hid (Box W5 (w.heap.size + 1) 52 [.int .i64 0, .int .i64 0, .slice none 0 0]) := Lib.hid (by rw [hW5]; exact By4.out.alloc _)
  have Bu5 : Hid (Box W5 w2.heap.size 52 [.int .i64 N, .int .i64 R, .slice a' n c']) := Lib.hid (by rw [hW5]; exact Bu4.out.alloc _)
  have B5 : Hid (Below w.heap.size w W5) := Lib.hid (by rw [hW5]; exact B4.out.alloc (by omega) _)
  have HS5 := Lib.hid hs5
  clear hW5 hs5
  have hne5 : Hid ((Value.slice a' n c').ownBlock ≠ some w4.heap.size) := Lib.hid (fun e => by have := (LT.out _ e).2; omega)
  go_wp2_with fail
  rw [← HW5.out]
  refine (c_Insert w1.heap.size a' n c' at' w4.heap.size xs x _ O5.out hcp (by omega) BV5.out hne5.out).mono ?_; rintro e w6 ⟨g6, c6, rfl, i6, gr6, at6⟩
  have hro : ∀ k, (Value.slice a' n c').ownBlock = some k → w1.heap.size ≤ k ∧ k < w2.heap.size := LT.out
  have B6 : Hid (Below w.heap.size w w6) := Lib.hid ((B5.out).grown gr6 (by rw [HS5.out]; omega) (fun g hg => by have := (hro g hg).1; omega))
  have z6 : w4.heap.size + 1 ≤ w6.heap.size := by have := gr6.size; rw [HS5.out] at this; exact this
  have kept : ∀ {g vs}, Box W5 g 52 vs → (∀ k, (Value.slice a' n c').ownBlock = some k → k ≠ g) → Box w6 g 52 vs := fun {g vs} hB hk => (gr6.block g hB.lt (fun e => hk g e.symm rfl)).trans hB
  have By6 := Lib.hid (kept By5.out (fun k hk => by have := (hro k hk).1; omega))
  have Bu6 := Lib.hid (kept Bu5.out (fun k hk => by have := (hro k hk).2; omega))
  have I6 := Lib.hid i6
  have hlen6 : (insV xs at' x).length = n + 1 := by rw [insV_len (by rw [HX.out]; exact hcp), HX.out]
  have HL6 := Lib.hid hlen6
  have hg6 : Hid (g6 ≠ w2.heap.size) := Lib.hid (by
    rcases at6 with h | h
    · have := (hro g6 h).2; omega
    · rw [h, HS5.out]; omega)
  clear at6 gr6 hro kept i6 hlen6 x0 x1 x2 fx u0 u1 u2 fu
  obtain ⟨u0, u1, u2, fu⟩ := Bu6.out.three
  have I7 : Hid (Ints (w6.setCell ⟨w2.heap.size, 2, none⟩ (.slice (some ⟨g6, 0, none⟩) (n + 1) c6)) (some ⟨g6, 0, none⟩) (insV xs at' x)) := Lib.hid (I6.out.set _ _ (fun q hq => by cases hq; exact hg6.out))
  have B7 : Hid (Below w.heap.size w (w6.setCell ⟨w2.heap.size, 2, none⟩ (.slice (some ⟨g6, 0, none⟩) (n + 1) c6))) := Lib.hid (B6.out.setCell (by simp; omega) _)
  have By7 : Hid (Box (w6.setCell ⟨w2.heap.size, 2, none⟩ (.slice (some ⟨g6, 0, none⟩) (n + 1) c6)) (w.heap.size + 1) 52 [.int .i64 0, .int .i64 0, .slice none 0 0]) := Lib.hid (By6.out.other (by simp; omega) _)
  go_wp2_with fail
  refine (c_cloneR N R (some ⟨g6, 0, none⟩) (n + 1) c6 (insV xs at' x) _ HL6.out (by omega) I7.out (fun h => by cases h)).mono ?_; rintro e w8 ⟨a8, c8, rfl, o8, g8⟩
  rw [HL6.out] at o8 ⊢
  have O8 := Lib.hid o8
  have B8 : Hid (Below w.heap.size w w8) := Lib.hid (B7.out.trans ((grown_below g8).mono (by simp; omega)))
  have z8 := g8.size
  obtain ⟨y0, y1, y2, fy⟩ := (By7.out.keep (grown_below g8)).three
  have LT8 : Hid ((Value.slice a8 (n + 1) c8).ownBlock ≠ some (w.heap.size + 1)) := Lib.hid (fun e => by have := (o8.lt _ e).1; simp at this; omega)
  have O8' : Hid (w8.ownsRow w.heap.size 3 1 (.slice a8 (n + 1) c8) (n + 1) ((insV xs at' x).map (Value.int .i64))) := Lib.hid (row_wider o8 (by simp; omega))
  simp only [World.size_setCell] at z8
  clear o8 g8
  go_wp2
  refine bodyPost_ret (v := .tuple #[.agg #[.int .i64 N, .int .i64 R, .slice a8 (n + 1) c8], .slice none 0 0, .bool true]) (by simp [results, Try.results29, go_sem, y0, y1, y2]) rfl ?_
  have hb := B8.out
  refine ⟨a8, c8, none, 0, by rw [HAT.out, HL6.out]; rfl, ?_, row_nil _ _ _ _, fun k _ => by simp [Value.ownBlock], by go_grown⟩
  rw [HAT.out, HL6.out]
  exact row_set (row_set (row_set O8'.out _ _ LT8.out) _ _ LT8.out) _ _ LT8.out
end Go.Proofs.Ytalalapjanckdaa
