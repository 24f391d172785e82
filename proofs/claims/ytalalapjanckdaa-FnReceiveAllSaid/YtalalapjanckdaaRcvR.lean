/- Contract of the program's Receive. No condition but lists of at most 10^6 numbers. -/
import Derived.Test.YtalalapjanckdaaRcvP
namespace Go.Proofs.Ytalalapjanckdaa
open Go.RowKit
/-- A receiver, numbers and a bool are handed back; both lists are new ones, in blocks of their own; nothing that was there has turned. -/
def RetRc (w : World) (v : Int × Int × List Int × List Int × Bool) (e : Ending) (w' : World) : Prop :=
  ∃ (a : Option Addr) (c : Nat) (b : Option Addr) (d : Nat), e = .returned (.tuple #[.agg #[.int .i64 v.1, .int .i64 v.2.1, .slice a v.2.2.1.length c], .slice b v.2.2.2.1.length d, .bool v.2.2.2.2]) ∧
    w'.ownsRow w.heap.size 3 1 (.slice a v.2.2.1.length c) v.2.2.1.length (v.2.2.1.map (Value.int .i64)) ∧ w'.ownsRow w.heap.size 3 1 (.slice b v.2.2.2.1.length d) v.2.2.2.1.length (v.2.2.2.1.map (Value.int .i64)) ∧
    (∀ k, (Value.slice a v.2.2.1.length c).ownBlock = some k → (Value.slice b v.2.2.2.1.length d).ownBlock ≠ some k) ∧ Below w.heap.size w w'
/-- The two blocks that a call with a receiver lays first: the parameter's, the result's. -/
theorem head2 {N R : Int} {a : Option Addr} {n cap : Nat} (w : World) : ∃ W, W = (w.alloc (.cells #[.int .i64 N, .int .i64 R, .slice a n cap] 52)).alloc (.cells #[.int .i64 0, .int .i64 0, .slice none 0 0] 52) ∧
    Below w.heap.size w W ∧ W.heap.size = w.heap.size + 2 ∧ Box W w.heap.size 52 [.int .i64 N, .int .i64 R, .slice a n cap] ∧ Box W (w.heap.size + 1) 52 [.int .i64 0, .int .i64 0, .slice none 0 0] :=
  ⟨_, rfl, ((Below.refl _ _).alloc (Nat.le_refl _) _).alloc (by simp) _, by simp, (Box.new _ _ _).alloc _, Box.new2 _ _ _ _ (by simp)⟩
set_option maxHeartbeats 800000 in
theorem c_Rc_bad (N R : Int) (a : Option Addr) (n cap : Nat) (xs : List Int) (x : Int) (w : World) (hxs : xs.length = n) (hn : n ≤ 1000000) (h : Ints w a xs) (hv : rv N R xs = false) :
    Calls Try.prog 29 #[.agg #[.int .i64 N, .int .i64 R, .slice a n cap], .int .i64 x] w (RetRc w (rcv N R xs x)) := by
  rw [rcv_bad hv]
  obtain ⟨W0, hW, g0, hs, bx, bY⟩ := head2 (N := N) (R := R) (a := a) (n := n) (cap := cap) w
  have HX := Lib.hid hxs
  have HW := Lib.hid hW
  have HG := Lib.hid g0
  have HS := Lib.hid hs
  have HI := Lib.hid (h.below g0)
  have HBx := Lib.hid bx
  have HBy := Lib.hid bY
  clear hxs hW g0 hs h bx bY
  go_enter Try.func29, Try.ntmps29
  go_wp2_with fail
  rw [← HW.out]
  refine (c_ReceiverValid N R a n cap xs _ HX.out (by omega) HI.out).mono ?_; rintro e w1 ⟨rfl, b1⟩
  rw [hv]
  have B1 := Lib.hid b1
  have z1 := b1.size
  rw [HS.out] at z1
  obtain ⟨x0, x1, x2, fx⟩ := (HBx.out.keep b1).three
  obtain ⟨y0, y1, y2, fy⟩ := (HBy.out.keep b1).three
  clear b1 x0 x1 x2 fx
  go_wp2
  have hq : Below w.heap.size w w1 := HG.out.trans (B1.out.mono (by rw [HS.out]; omega))
  refine bodyPost_ret (v := .tuple #[.agg #[.int .i64 0, .int .i64 0, .slice none 0 0], .slice none 0 0, .bool false]) (by simp [results, Try.results29, go_sem, y0, y1, y2]) rfl ?_
  exact ⟨none, 0, none, 0, rfl, row_nil _ _ _ _, row_nil _ _ _ _, fun k hk => by simp [Value.ownBlock] at hk, by go_grown⟩
set_option maxHeartbeats 1600000 in
theorem c_Rc_same (N R : Int) (a : Option Addr) (n cap : Nat) (xs : List Int) (x : Int) (w : World) (hxs : xs.length = n) (hn : n ≤ 1000000) (h : Ints w a xs) (ha : a = none → n = 0 ∧ cap = 0) (hv : rv N R xs = true) (hc : x < N ∨ xs.contains x = true) :
    Calls Try.prog 29 #[.agg #[.int .i64 N, .int .i64 R, .slice a n cap], .int .i64 x] w (RetRc w (rcv N R xs x)) := by
  rw [rcv_same hv hc]
  obtain ⟨W0, hW, g0, hs, bx, bY⟩ := head2 (N := N) (R := R) (a := a) (n := n) (cap := cap) w
  have HX := Lib.hid hxs
  have HW := Lib.hid hW
  have HG := Lib.hid g0
  have HS := Lib.hid hs
  have HI := Lib.hid (h.below g0)
  have HA := Lib.hid ha
  have HBx := Lib.hid bx
  have HBy := Lib.hid bY
  have HP := Lib.hid (rv_le hv)
  clear hxs hW g0 hs h ha bx bY
  go_enter Try.func29, Try.ntmps29
  go_wp2_with fail
  rw [← HW.out]
  refine (c_ReceiverValid N R a n cap xs _ HX.out (by omega) HI.out).mono ?_; rintro e w1 ⟨rfl, b1⟩
  rw [hv]
  have B1 : Hid (Below w.heap.size w w1) := Lib.hid (HG.out.trans (b1.mono (by rw [HS.out]; omega)))
  have z1 := b1.size
  rw [HS.out] at z1
  have Bx1 := Lib.hid (HBx.out.keep b1)
  have By1 := Lib.hid (HBy.out.keep b1)
  have I1 := Lib.hid (HI.out.below b1)
  obtain ⟨x0, x1, x2, fx⟩ := Bx1.out.three
  clear b1 fx
  go_wp2_with fail
  refine (c_cloneR N R a n cap xs _ HX.out (by omega) I1.out HA.out).mono ?_; rintro e w2 ⟨a', c', rfl, o2, g2⟩
  rw [HX.out] at o2 ⊢
  have O2 := Lib.hid o2
  have G2 := Lib.hid (grown_below g2)
  have z2 := g2.size
  obtain ⟨W3, hW3⟩ : ∃ W3, W3 = w2.alloc (.cells #[.int .i64 N, .int .i64 R, .slice a' n c'] 52) := ⟨_, rfl⟩
  have HW3 := Lib.hid hW3
  have z3 : W3.heap.size = w2.heap.size + 1 := by rw [hW3]; simp
  have B3 : Hid (Below w.heap.size w W3) := Lib.hid (by rw [hW3]; exact (B1.out.trans (G2.out.mono (by omega))).alloc (by omega) _)
  have Bx3 : Hid (Box W3 w.heap.size 52 [.int .i64 N, .int .i64 R, .slice a n cap]) := Lib.hid (by rw [hW3]; exact (Bx1.out.keep G2.out).alloc _)
  have By3 : Hid (Box W3 (w.heap.size + 1) 52 [.int .i64 0, .int .i64 0, .slice none 0 0]) := Lib.hid (by rw [hW3]; exact (By1.out.keep G2.out).alloc _)
  have Bu3 : Hid (Box W3 w2.heap.size 52 [.int .i64 N, .int .i64 R, .slice a' n c']) := Lib.hid (by rw [hW3]; exact Box.new2 _ _ _ _ rfl)
  have I3 : Hid (Ints W3 a xs) := Lib.hid (by rw [hW3]; exact (I1.out.below G2.out).below ((Below.refl _ _).alloc (Nat.le_refl _) _))
  have O3 : Hid (W3.ownsRow w1.heap.size 3 1 (.slice a' n c') n (xs.map (Value.int .i64))) := Lib.hid (by rw [hW3]; exact O2.out.alloc _)
  have HZ3 := Lib.hid z3
  clear o2 g2 hW3 x0 x1 x2 z3
  go_wp2_with fail
  rw [← HW3.out]
  refine (c_BSearch a' n c' xs x _ HX.out (by omega) (own_ints O3.out).1 HP.out).mono ?_; rintro e w4 ⟨rfl, b4⟩
  have B4 : Hid (Below w.heap.size w w4) := Lib.hid (B3.out.trans (b4.mono (by rw [HZ3.out]; omega)))
  have z4 : w2.heap.size + 1 ≤ w4.heap.size := by have := b4.size; rw [HZ3.out] at this; exact this
  have Bx4 := Lib.hid (Bx3.out.keep b4)
  have By4 := Lib.hid (By3.out.keep b4)
  have Bu4 := Lib.hid (Bu3.out.keep b4)
  have I4 := Lib.hid (I3.out.below b4)
  have O4 := Lib.hid (row_below O3.out b4)
  have hlt4 : ∀ k, (Value.slice a' n c').ownBlock = some k → w1.heap.size ≤ k ∧ k < w2.heap.size := O2.out.lt
  have LT := Lib.hid hlt4
  clear b4 hlt4
  obtain ⟨x0, x1, x2, fx⟩ := Bx4.out.three
  obtain ⟨y0, y1, y2, fy⟩ := By4.out.three
  obtain ⟨u0, u1, u2, fu⟩ := Bu4.out.three
  by_cases hlt : x < N
  · clear hc hv
    go_wp2
    refine bodyPost_ret (v := .tuple #[.agg #[.int .i64 N, .int .i64 R, .slice a' n c'], .slice none 0 0, .bool true]) (by simp [results, Try.results29, go_sem, y0, y1, y2]) rfl ?_
    obtain rfl := HX.out
    have hb := B4.out
    have hne : (Value.slice a' xs.length c').ownBlock ≠ some (w.heap.size + 1) := fun e => by have := (LT.out _ e).1; omega
    exact ⟨a', c', none, 0, rfl, row_wider (row_set (row_set (row_set O4.out _ _ hne) _ _ hne) _ _ hne) (by omega), row_nil _ _ _ _, fun k _ => by simp [Value.ownBlock], by go_grown⟩
  · have hc2 : xs.contains x = true := hc.resolve_left hlt
    rw [hc2]
    clear hc hc2 hv
    go_wp2
    refine bodyPost_ret (v := .tuple #[.agg #[.int .i64 N, .int .i64 R, .slice a' n c'], .slice none 0 0, .bool true]) (by simp [results, Try.results29, go_sem, y0, y1, y2]) rfl ?_
    obtain rfl := HX.out
    have hb := B4.out
    have hne : (Value.slice a' xs.length c').ownBlock ≠ some (w.heap.size + 1) := fun e => by have := (LT.out _ e).1; omega
    exact ⟨a', c', none, 0, rfl, row_wider (row_set (row_set (row_set O4.out _ _ hne) _ _ hne) _ _ hne) (by omega), row_nil _ _ _ _, fun k _ => by simp [Value.ownBlock], by go_grown⟩
end Go.Proofs.Ytalalapjanckdaa
