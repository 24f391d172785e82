/- The reference's ReceiveAll. No condition but lists of at most 2^20 numbers. The text is written by a program (wip/mkrcvb.py). -/
import Derived.Test.YtalalapjanckdaaRcvA
namespace Go.Proofs.Ytalalapjanckdaa
open Go.RowKit
/-- A struct of two numbers and a list, and another list, are handed back. -/
def RetRB (w : World) (v : Int × Int × List Int × List Int) (e : Ending) (w' : World) : Prop :=
  ∃ (a : Option Addr) (c : Nat) (b : Option Addr) (d : Nat), e = .returned (.tuple #[.agg #[.int .i64 v.1, .int .i64 v.2.1, .slice a v.2.2.1.length c], .slice b v.2.2.2.length d]) ∧ Ints w' a v.2.2.1 ∧ Ints w' b v.2.2.2 ∧ Below w.heap.size w w'
/-- What one call of Receive leaves. -/
def NRel (u1 u2 : Int) (u3 u4 : List Int) (W : World) (s9 s10 : Value) (wx : World) : Prop :=
  ∃ (g9 : Nat) (a5 : Option Addr) (c5 : Nat) (b5 : Option Addr) (d5 : Nat), s9 = .pointer (some ⟨g9, 0, none⟩) ∧ s10 = .slice b5 u4.length d5 ∧ W.heap.size ≤ g9 ∧ Box wx g9 52 [.int .i64 u1, .int .i64 u2, .slice a5 u3.length c5] ∧ Ints wx a5 u3 ∧ Ints wx b5 u4 ∧
    (a5 = none → u3.length = 0 ∧ c5 = 0) ∧ (b5 = none → u4.length = 0 ∧ d5 = 0) ∧ (∀ q, a5 = some q → W.heap.size ≤ q.block) ∧ (u4 = [] ∨ ∀ q, b5 = some q → W.heap.size ≤ q.block) ∧ Below W.heap.size W wx
/-- What the loop keeps. -/
def RAllS (N R : Int) (hs l : List Int) (g G : Nat) (w : World) (v i : Value) (wr : World) : Prop :=
  ∃ (k : Nat) (v1 v2 : Int) (v3 v4 : List Int) (a : Option Addr) (c : Nat) (b : Option Addr) (d : Nat), k ≤ l.length ∧ i = .int .i64 (k : Int) ∧ rcvK N R hs (l.take k) = (v1, v2, v3, v4) ∧ v = .slice b v4.length d ∧
    Box wr g 52 [.int .i64 v1, .int .i64 v2, .slice a v3.length c] ∧ Ints wr a v3 ∧ (a = none → v3.length = 0 ∧ c = 0) ∧ (∀ q, a = some q → G ≤ q.block) ∧ wr.ownsRow G 3 1 (.slice b v4.length d) v4.length (v4.map (Value.int .i64)) ∧
    (∀ k, (Value.slice b v4.length d).ownBlock = some k → k ≠ g) ∧ Below G w wr ∧ g < wr.heap.size ∧ G ≤ wr.heap.size
set_option maxRecDepth 100000 in
set_option maxHeartbeats 1600000 in
theorem s_RA_bad1 (N R : Int) (a : Option Addr) (n cap : Nat) (xs : List Int) (b : Option Addr) (m cap' : Nat) (l : List Int) (w : World) (hxs : xs.length = n) (hn : n ≤ 1048576) (h : Ints w a xs) (ha : a = none → n = 0 ∧ cap = 0) (hl : l.length = m) (hj : Ints w b l) (hv : rv N R xs = false) :
    Calls Try.prog 44 #[.agg #[.int .i64 N, .int .i64 R, .slice a n cap], .slice b m cap'] w (RetRB w (0, 0, [], [])) := by
  obtain ⟨W0, hW, g0, hs, bx, bY⟩ := head2 (N := N) (R := R) (a := a) (n := n) (cap := cap) w
  have HX := Lib.hid hxs
  have HW := Lib.hid hW
  have HG := Lib.hid g0
  have HS := Lib.hid hs
  have HI := Lib.hid (h.below g0)
  have HA := Lib.hid ha
  have HBx := Lib.hid bx
  have HBy := Lib.hid bY
  have HV := Lib.hid hv
  have HJ := Lib.hid hj
  have HL := Lib.hid hl
  clear hxs hW g0 hs h ha bx bY hv hj hl
  go_enter Try.func44, Try.ntmps44
  go_wp2_with fail
  rw [← HW.out]
  refine (s_ownR N R a n cap xs _ HX.out (by omega) HI.out HA.out).mono ?_; rintro e w2 ⟨a', c', rfl, o2, g2, n2⟩
  have HN2 := Lib.hid n2
  rw [HX.out] at o2 ⊢
  have O2 := Lib.hid o2
  have LT := Lib.hid o2.lt
  rw [HS.out] at LT
  have B2 : Hid (Below w.heap.size w w2) := Lib.hid (HG.out.trans ((grown_below g2).mono (by rw [HS.out]; omega)))
  have z2 := g2.size
  rw [HS.out] at z2
  have Bx2 := Lib.hid (HBx.out.keep (grown_below g2))
  have By2 := Lib.hid (HBy.out.keep (grown_below g2))
  obtain ⟨x0, x1, x2, fx⟩ := Bx2.out.three
  have hne : (Value.slice a' n c').ownBlock ≠ some w.heap.size := fun e => by have := (LT.out _ e).1; omega
  obtain ⟨W3, hW3⟩ : ∃ W3, W3 = (((w2.setCell ⟨w.heap.size, 0, none⟩ (.int .i64 N)).setCell ⟨w.heap.size, 1, none⟩ (.int .i64 R)).setCell ⟨w.heap.size, 2, none⟩ (.slice a' n c')).alloc (.cells #[] 3) := ⟨_, rfl⟩
  have z3 : W3.heap.size = w2.heap.size + 1 := by rw [hW3]; simp
  have B3 : Hid (Below w.heap.size w W3) := Lib.hid (by rw [hW3]; exact (((B2.out.setCell (by simp) _).setCell (by simp) _).setCell (by simp) _).alloc (by simp; omega) _)
  have Bx3 : Hid (Box W3 w.heap.size 52 [.int .i64 N, .int .i64 R, .slice a' n c']) := Lib.hid (by rw [hW3]; exact (((Bx2.out.set 0 _).set 1 _).set 2 _).alloc _)
  have By3 : Hid (Box W3 (w.heap.size + 1) 52 [.int .i64 0, .int .i64 0, .slice none 0 0]) := Lib.hid (by rw [hW3]; exact (((By2.out.other (by simp) _).other (by simp) _).other (by simp) _).alloc _)
  have O3 : Hid (W3.ownsRow w.heap.size 3 1 (.slice a' n c') n (xs.map (Value.int .i64))) := Lib.hid (by rw [hW3]; exact row_wider ((row_set (row_set (row_set O2.out _ _ hne) _ _ hne) _ _ hne).alloc _) (by rw [HS.out]; omega))
  have E3 : Hid (W3.ownsRow w2.heap.size 3 1 (.slice (some ⟨w2.heap.size, 0, none⟩) 0 0) 0 (([] : List Int).map (Value.int .i64))) := Lib.hid (by rw [hW3]; exact row_emp _ _ _ _ (by simp) (Nat.le_refl _))
  have HW3 := Lib.hid hW3
  have HZ3 := Lib.hid z3
  clear o2 g2 n2 hW3 hne z3
  obtain ⟨q0, q1, q2, fq⟩ := Bx3.out.three
  go_upto_region 3 with fail
  rw [← HW3.out]
  clear x0 x1 x2 fx
  go_wp2_with fail
  clear q0 q1 q2 fq
  refine (s_ReceiverValid N R a' n c' xs _ HX.out (by omega) (own_ints O3.out).1).mono ?_; rintro e w4 ⟨rfl, b4⟩
  rw [HV.out]
  have B4 : Hid (Below w.heap.size w w4) := Lib.hid (B3.out.trans (b4.mono (by rw [HZ3.out]; omega)))
  have z4 : w2.heap.size + 1 ≤ w4.heap.size := by have := b4.size; rw [HZ3.out] at this; exact this
  have Bx4 := Lib.hid (Bx3.out.keep b4)
  have By4 := Lib.hid (By3.out.keep b4)
  have O4 := Lib.hid (row_below O3.out b4)
  have E4 := Lib.hid (row_below E3.out b4)
  have JA := Lib.hid (own_none O4.out)
  have V4 : Hid (Vals w4 a' (xs.map (Value.int .i64))) := Lib.hid (row_vals O4.out)
  clear b4
  obtain ⟨y0, y1, y2, fy⟩ := By4.out.three
  go_wp2
  refine bodyPost_ret (v := .tuple #[.agg #[.int .i64 0, .int .i64 0, .slice none 0 0], .slice (some ⟨w2.heap.size, 0, none⟩) 0 0]) (by simp [results, Try.results44, go_sem, y0, y1, y2]) rfl ?_
  have hb := B4.out
  exact ⟨none, 0, some ⟨w2.heap.size, 0, none⟩, 0, rfl, .inl rfl, .inl rfl, by go_grown⟩
set_option maxRecDepth 100000 in
set_option maxHeartbeats 1600000 in
theorem s_RA_bad2 (N R : Int) (a : Option Addr) (n cap : Nat) (xs : List Int) (b : Option Addr) (m cap' : Nat) (l : List Int) (w : World) (hxs : xs.length = n) (hn : n ≤ 1048576) (h : Ints w a xs) (ha : a = none → n = 0 ∧ cap = 0) (hl : l.length = m) (hj : Ints w b l) (hv : rv N R xs = true) (hm : (40 : Int) < (m : Int)) :
    Calls Try.prog 44 #[.agg #[.int .i64 N, .int .i64 R, .slice a n cap], .slice b m cap'] w (RetRB w (0, 0, [], [])) := by
  obtain ⟨W0, hW, g0, hs, bx, bY⟩ := head2 (N := N) (R := R) (a := a) (n := n) (cap := cap) w
  have HX := Lib.hid hxs
  have HW := Lib.hid hW
  have HG := Lib.hid g0
  have HS := Lib.hid hs
  have HI := Lib.hid (h.below g0)
  have HA := Lib.hid ha
  have HBx := Lib.hid bx
  have HBy := Lib.hid bY
  have HV := Lib.hid hv
  have HJ := Lib.hid hj
  have HL := Lib.hid hl
  clear hxs hW g0 hs h ha bx bY hv hj hl
  go_enter Try.func44, Try.ntmps44
  go_wp2_with fail
  rw [← HW.out]
  refine (s_ownR N R a n cap xs _ HX.out (by omega) HI.out HA.out).mono ?_; rintro e w2 ⟨a', c', rfl, o2, g2, n2⟩
  have HN2 := Lib.hid n2
  rw [HX.out] at o2 ⊢
  have O2 := Lib.hid o2
  have LT := Lib.hid o2.lt
  rw [HS.out] at LT
  have B2 : Hid (Below w.heap.size w w2) := Lib.hid (HG.out.trans ((grown_below g2).mono (by rw [HS.out]; omega)))
  have z2 := g2.size
  rw [HS.out] at z2
  have Bx2 := Lib.hid (HBx.out.keep (grown_below g2))
  have By2 := Lib.hid (HBy.out.keep (grown_below g2))
  obtain ⟨x0, x1, x2, fx⟩ := Bx2.out.three
  have hne : (Value.slice a' n c').ownBlock ≠ some w.heap.size := fun e => by have := (LT.out _ e).1; omega
  obtain ⟨W3, hW3⟩ : ∃ W3, W3 = (((w2.setCell ⟨w.heap.size, 0, none⟩ (.int .i64 N)).setCell ⟨w.heap.size, 1, none⟩ (.int .i64 R)).setCell ⟨w.heap.size, 2, none⟩ (.slice a' n c')).alloc (.cells #[] 3) := ⟨_, rfl⟩
  have z3 : W3.heap.size = w2.heap.size + 1 := by rw [hW3]; simp
  have B3 : Hid (Below w.heap.size w W3) := Lib.hid (by rw [hW3]; exact (((B2.out.setCell (by simp) _).setCell (by simp) _).setCell (by simp) _).alloc (by simp; omega) _)
  have Bx3 : Hid (Box W3 w.heap.size 52 [.int .i64 N, .int .i64 R, .slice a' n c']) := Lib.hid (by rw [hW3]; exact (((Bx2.out.set 0 _).set 1 _).set 2 _).alloc _)
  have By3 : Hid (Box W3 (w.heap.size + 1) 52 [.int .i64 0, .int .i64 0, .slice none 0 0]) := Lib.hid (by rw [hW3]; exact (((By2.out.other (by simp) _).other (by simp) _).other (by simp) _).alloc _)
  have O3 : Hid (W3.ownsRow w.heap.size 3 1 (.slice a' n c') n (xs.map (Value.int .i64))) := Lib.hid (by rw [hW3]; exact row_wider ((row_set (row_set (row_set O2.out _ _ hne) _ _ hne) _ _ hne).alloc _) (by rw [HS.out]; omega))
  have E3 : Hid (W3.ownsRow w2.heap.size 3 1 (.slice (some ⟨w2.heap.size, 0, none⟩) 0 0) 0 (([] : List Int).map (Value.int .i64))) := Lib.hid (by rw [hW3]; exact row_emp _ _ _ _ (by simp) (Nat.le_refl _))
  have HW3 := Lib.hid hW3
  have HZ3 := Lib.hid z3
  clear o2 g2 n2 hW3 hne z3
  obtain ⟨q0, q1, q2, fq⟩ := Bx3.out.three
  go_upto_region 3 with fail
  rw [← HW3.out]
  clear x0 x1 x2 fx
  go_wp2_with fail
  clear q0 q1 q2 fq
  refine (s_ReceiverValid N R a' n c' xs _ HX.out (by omega) (own_ints O3.out).1).mono ?_; rintro e w4 ⟨rfl, b4⟩
  rw [HV.out]
  have B4 : Hid (Below w.heap.size w w4) := Lib.hid (B3.out.trans (b4.mono (by rw [HZ3.out]; omega)))
  have z4 : w2.heap.size + 1 ≤ w4.heap.size := by have := b4.size; rw [HZ3.out] at this; exact this
  have Bx4 := Lib.hid (Bx3.out.keep b4)
  have By4 := Lib.hid (By3.out.keep b4)
  have O4 := Lib.hid (row_below O3.out b4)
  have E4 := Lib.hid (row_below E3.out b4)
  have JA := Lib.hid (own_none O4.out)
  have V4 : Hid (Vals w4 a' (xs.map (Value.int .i64))) := Lib.hid (row_vals O4.out)
  clear b4
  obtain ⟨y0, y1, y2, fy⟩ := By4.out.three
  go_wp2
  refine bodyPost_ret (v := .tuple #[.agg #[.int .i64 0, .int .i64 0, .slice none 0 0], .slice (some ⟨w2.heap.size, 0, none⟩) 0 0]) (by simp [results, Try.results44, go_sem, y0, y1, y2]) rfl ?_
  have hb := B4.out
  exact ⟨none, 0, some ⟨w2.heap.size, 0, none⟩, 0, rfl, .inl rfl, .inl rfl, by go_grown⟩
set_option maxRecDepth 100000 in
set_option maxHeartbeats 6400000 in
theorem s_RA_good (N R : Int) (a : Option Addr) (n cap : Nat) (xs : List Int) (b : Option Addr) (m cap' : Nat) (l : List Int) (w : World) (hxs : xs.length = n) (hn : n ≤ 1048576) (h : Ints w a xs) (ha : a = none → n = 0 ∧ cap = 0) (hl : l.length = m) (hj : Ints w b l) (hv : rv N R xs = true) (hm0 : m ≤ 40) :
    Calls Try.prog 44 #[.agg #[.int .i64 N, .int .i64 R, .slice a n cap], .slice b m cap'] w (RetRB w (rcvK N R xs l)) := by
  have hm : ¬ ((40 : Int) < (m : Int)) := by omega
  have HSm : Hid (xs.length ≤ 10) := Lib.hid (rv_small hv)
  obtain ⟨W0, hW, g0, hs, bx, bY⟩ := head2 (N := N) (R := R) (a := a) (n := n) (cap := cap) w
  have HX := Lib.hid hxs
  have HW := Lib.hid hW
  have HG := Lib.hid g0
  have HS := Lib.hid hs
  have HI := Lib.hid (h.below g0)
  have HA := Lib.hid ha
  have HBx := Lib.hid bx
  have HBy := Lib.hid bY
  have HV := Lib.hid hv
  have HJ := Lib.hid hj
  have HL := Lib.hid hl
  clear hxs hW g0 hs h ha bx bY hv hj hl
  go_enter Try.func44, Try.ntmps44
  go_wp2_with fail
  rw [← HW.out]
  refine (s_ownR N R a n cap xs _ HX.out (by omega) HI.out HA.out).mono ?_; rintro e w2 ⟨a', c', rfl, o2, g2, n2⟩
  have HN2 := Lib.hid n2
  rw [HX.out] at o2 ⊢
  have O2 := Lib.hid o2
  have LT := Lib.hid o2.lt
  rw [HS.out] at LT
  have B2 : Hid (Below w.heap.size w w2) := Lib.hid (HG.out.trans ((grown_below g2).mono (by rw [HS.out]; omega)))
  have z2 := g2.size
  rw [HS.out] at z2
  have Bx2 := Lib.hid (HBx.out.keep (grown_below g2))
  have By2 := Lib.hid (HBy.out.keep (grown_below g2))
  obtain ⟨x0, x1, x2, fx⟩ := Bx2.out.three
  have hne : (Value.slice a' n c').ownBlock ≠ some w.heap.size := fun e => by have := (LT.out _ e).1; omega
  obtain ⟨W3, hW3⟩ : ∃ W3, W3 = (((w2.setCell ⟨w.heap.size, 0, none⟩ (.int .i64 N)).setCell ⟨w.heap.size, 1, none⟩ (.int .i64 R)).setCell ⟨w.heap.size, 2, none⟩ (.slice a' n c')).alloc (.cells #[] 3) := ⟨_, rfl⟩
  have z3 : W3.heap.size = w2.heap.size + 1 := by rw [hW3]; simp
  have B3 : Hid (Below w.heap.size w W3) := Lib.hid (by rw [hW3]; exact (((B2.out.setCell (by simp) _).setCell (by simp) _).setCell (by simp) _).alloc (by simp; omega) _)
  have Bx3 : Hid (Box W3 w.heap.size 52 [.int .i64 N, .int .i64 R, .slice a' n c']) := Lib.hid (by rw [hW3]; exact (((Bx2.out.set 0 _).set 1 _).set 2 _).alloc _)
  have By3 : Hid (Box W3 (w.heap.size + 1) 52 [.int .i64 0, .int .i64 0, .slice none 0 0]) := Lib.hid (by rw [hW3]; exact (((By2.out.other (by simp) _).other (by simp) _).other (by simp) _).alloc _)
  have O3 : Hid (W3.ownsRow w.heap.size 3 1 (.slice a' n c') n (xs.map (Value.int .i64))) := Lib.hid (by rw [hW3]; exact row_wider ((row_set (row_set (row_set O2.out _ _ hne) _ _ hne) _ _ hne).alloc _) (by rw [HS.out]; omega))
  have E3 : Hid (W3.ownsRow w2.heap.size 3 1 (.slice (some ⟨w2.heap.size, 0, none⟩) 0 0) 0 (([] : List Int).map (Value.int .i64))) := Lib.hid (by rw [hW3]; exact row_emp _ _ _ _ (by simp) (Nat.le_refl _))
  have HW3 := Lib.hid hW3
  have HZ3 := Lib.hid z3
  clear o2 g2 n2 hW3 hne z3
  obtain ⟨q0, q1, q2, fq⟩ := Bx3.out.three
  go_upto_region 3 with fail
  rw [← HW3.out]
  clear x0 x1 x2 fx
  go_wp2_with fail
  clear q0 q1 q2 fq
  refine (s_ReceiverValid N R a' n c' xs _ HX.out (by omega) (own_ints O3.out).1).mono ?_; rintro e w4 ⟨rfl, b4⟩
  rw [HV.out]
  have B4 : Hid (Below w.heap.size w w4) := Lib.hid (B3.out.trans (b4.mono (by rw [HZ3.out]; omega)))
  have z4 : w2.heap.size + 1 ≤ w4.heap.size := by have := b4.size; rw [HZ3.out] at this; exact this
  have Bx4 := Lib.hid (Bx3.out.keep b4)
  have By4 := Lib.hid (By3.out.keep b4)
  have O4 := Lib.hid (row_below O3.out b4)
  have E4 := Lib.hid (row_below E3.out b4)
  have JA := Lib.hid (own_none O4.out)
  have V4 : Hid (Vals w4 a' (xs.map (Value.int .i64))) := Lib.hid (row_vals O4.out)
  clear b4
  go_upto_region 5 with fail
  go_cut [7] (XRel N R xs n w4.heap.size w4)
  case first =>
    obtain ⟨x0, x1, x2, fx⟩ := Bx4.out.three
    have hzd : w4.drew.heap.size = w4.heap.size := rfl
    have HL := Lib.hid (show (xs.map (Value.int .i64)).length = n * 1 by rw [List.length_map, HX.out, Nat.mul_one])
    have H1 : Hid ((w4.alloc (.cells #[] 3)).drew.ownsRow w4.heap.size 3 1 (.slice (some ⟨w4.heap.size, 0, none⟩) 0 0) 0 []) := Lib.hid (row_emp w4 _ _ _ rfl (Nat.le_refl _)).drew
    have H2 : Hid (((w4.alloc (.cells #[] 3)).alloc (.cells #[.int .i64 0, .int .i64 0, .slice none 0 0] 52)).drew.ownsRow w4.heap.size 3 1 (.slice (some ⟨w4.heap.size, 0, none⟩) 0 0) 0 []) := Lib.hid ((row_emp w4 _ _ _ rfl (Nat.le_refl _)).alloc _).drew
    have H3 : Hid (((w4.alloc (.cells #[.int .i64 0, .int .i64 0, .slice none 0 0] 52)).alloc (.cells #[] 3)).drew.ownsRow w4.heap.size 3 1 (.slice (some ⟨w4.heap.size + 1, 0, none⟩) 0 0) 0 []) := Lib.hid (row_emp (w4.alloc (.cells #[.int .i64 0, .int .i64 0, .slice none 0 0] 52)) _ _ _ (by simp) (by omega)).drew
    have A1 : Hid (Below w4.heap.size w4 (w4.alloc (.cells #[] 3)).drew) := Lib.hid ((Below.refl _ _).alloc (Nat.le_refl _) _).drew
    have A2 : Hid (Below w4.heap.size w4 ((w4.alloc (.cells #[] 3)).alloc (.cells #[.int .i64 0, .int .i64 0, .slice none 0 0] 52)).drew) := Lib.hid (((Below.refl _ _).alloc (Nat.le_refl _) _).alloc (by simp) _).drew
    have A3 : Hid (Below w4.heap.size w4 ((w4.alloc (.cells #[.int .i64 0, .int .i64 0, .slice none 0 0] 52)).alloc (.cells #[] 3)).drew) := Lib.hid (((Below.refl _ _).alloc (Nat.le_refl _) _).alloc (by simp) _).drew
    clear fx
    have hl4 : w.heap.size < w4.heap.size := by omega
    go_region_held3 (fun w' => w'.cell? ⟨w.heap.size, 0, none⟩ = some (.int .i64 N) ∧ w'.cell? ⟨w.heap.size, 1, none⟩ = some (.int .i64 R) ∧ w'.cell? ⟨w.heap.size, 2, none⟩ = some (.slice a' n c')) (first | (with_reducible exact ⟨keepD0 x0, keepD0 x1, keepD0 x2⟩) | (with_reducible exact ⟨keepD1 x0 _, keepD1 x1 _, keepD1 x2 _⟩) | (with_reducible exact ⟨keepD2 x0 _ _, keepD2 x1 _ _, keepD2 x2 _ _⟩) | (with_reducible exact ⟨kk0, kk1, kk2⟩) | (with_reducible exact ⟨keep kk0 _, keep kk1 _, keep kk2 _⟩) | (with_reducible exact ⟨keepS kk0 (by omega), keepS kk1 (by omega), keepS kk2 (by omega)⟩) | (trace "KEEP"; trace_state; fail))
      (first
        | (refine step_appA _ rfl elemI (.tmp 29) (.tmp 31) rfl w4.heap.size (.slice (some ⟨w4.heap.size, 0, none⟩) 0 0) 0 [] rfl H1.out a' n c' (xs.map (Value.int .i64)) rfl (V4.out.below A1.out) HL.out (ints_one _) JA.out (by omega) (by simp) n (Nat.zero_add n) (xs.map (Value.int .i64)) rfl ?_
           intro a5 c5 w5 hown5 hgrow5 hat5
           have HO5 := Lib.hid hown5
           have HB5 : Hid (Below w4.heap.size w4 w5) := Lib.hid (A1.out.grown hgrow5 (by simp) (by simp [Value.ownBlock]))
           have HZ5 : Hid ((Value.slice a5 n c5).ownBlock = some w4.heap.size ∨ (Value.slice a5 n c5).ownBlock = some (w4.heap.size + 1)) := Lib.hid (by simpa [Value.ownBlock] using hat5)
           have HM5 : Hid (w4.heap.size + 1 ≤ w5.heap.size) := Lib.hid (by have := hgrow5.size; simpa using this)
           have kk0 : w5.cell? ⟨w.heap.size, 0, none⟩ = some (.int .i64 N) := hgrow5.cell (keep x0 _) (by simp [Value.ownBlock]; omega)
           have kk1 : w5.cell? ⟨w.heap.size, 1, none⟩ = some (.int .i64 R) := hgrow5.cell (keep x1 _) (by simp [Value.ownBlock]; omega)
           have kk2 : w5.cell? ⟨w.heap.size, 2, none⟩ = some (.slice a' n c') := hgrow5.cell (keep x2 _) (by simp [Value.ownBlock]; omega))
        | (refine step_appA _ rfl elemI (.tmp 29) (.tmp 31) rfl w4.heap.size (.slice (some ⟨w4.heap.size, 0, none⟩) 0 0) 0 [] rfl H2.out a' n c' (xs.map (Value.int .i64)) rfl (V4.out.below A2.out) HL.out (ints_one _) JA.out (by omega) (by simp <;> omega) n (Nat.zero_add n) (xs.map (Value.int .i64)) rfl ?_
           intro a5 c5 w5 hown5 hgrow5 hat5
           have HO5 := Lib.hid hown5
           have HB5 : Hid (Below w4.heap.size w4 w5) := Lib.hid (A2.out.grown hgrow5 (by simp <;> omega) (by simp [Value.ownBlock]))
           have HZ5 : Hid ((Value.slice a5 n c5).ownBlock = some w4.heap.size ∨ (Value.slice a5 n c5).ownBlock = some (w4.heap.size + 2)) := Lib.hid (by simpa [Value.ownBlock] using hat5)
           have HM5 : Hid (Box w5 (w4.heap.size + 1) 52 [.int .i64 0, .int .i64 0, .slice none 0 0]) := Lib.hid ((hgrow5.block (w4.heap.size + 1) (by simp) (by simp [Value.ownBlock])).trans (Box.new2 _ _ _ _ (by simp)))
           have kk0 : w5.cell? ⟨w.heap.size, 0, none⟩ = some (.int .i64 N) := hgrow5.cell (keep (keep x0 _) _) (by simp [Value.ownBlock]; omega)
           have kk1 : w5.cell? ⟨w.heap.size, 1, none⟩ = some (.int .i64 R) := hgrow5.cell (keep (keep x1 _) _) (by simp [Value.ownBlock]; omega)
           have kk2 : w5.cell? ⟨w.heap.size, 2, none⟩ = some (.slice a' n c') := hgrow5.cell (keep (keep x2 _) _) (by simp [Value.ownBlock]; omega)
           obtain ⟨m0, m1, m2, mf⟩ := HM5.out.three)
        | (refine step_appA _ rfl elemI (.tmp 29) (.tmp 31) rfl w4.heap.size (.slice (some ⟨w4.heap.size + 1, 0, none⟩) 0 0) 0 [] rfl H3.out a' n c' (xs.map (Value.int .i64)) rfl (V4.out.below A3.out) HL.out (ints_one _) JA.out (by omega) (by simp <;> omega) n (Nat.zero_add n) (xs.map (Value.int .i64)) rfl ?_
           intro a5 c5 w5 hown5 hgrow5 hat5
           have HO5 := Lib.hid hown5
           have HB5 : Hid (Below w4.heap.size w4 w5) := Lib.hid (A3.out.grown hgrow5 (by simp <;> omega) (by simp [Value.ownBlock]))
           have HZ5 : Hid ((Value.slice a5 n c5).ownBlock = some (w4.heap.size + 1) ∨ (Value.slice a5 n c5).ownBlock = some (w4.heap.size + 2)) := Lib.hid (by simpa [Value.ownBlock] using hat5)
           have HM5 : Hid (Box w5 w4.heap.size 52 [.int .i64 0, .int .i64 0, .slice none 0 0]) := Lib.hid ((hgrow5.block w4.heap.size (by simp <;> omega) (by simp [Value.ownBlock])).trans ((Box.new2 _ _ _ _ rfl).alloc _))
           have kk0 : w5.cell? ⟨w.heap.size, 0, none⟩ = some (.int .i64 N) := hgrow5.cell (keep (keep x0 _) _) (by simp [Value.ownBlock]; omega)
           have kk1 : w5.cell? ⟨w.heap.size, 1, none⟩ = some (.int .i64 R) := hgrow5.cell (keep (keep x1 _) _) (by simp [Value.ownBlock]; omega)
           have kk2 : w5.cell? ⟨w.heap.size, 2, none⟩ = some (.slice a' n c') := hgrow5.cell (keep (keep x2 _) _) (by simp [Value.ownBlock]; omega)
           obtain ⟨m0, m1, m2, mf⟩ := HM5.out.three))
    all_goals
      go_wp2_with fail
      go_meet
      have hz := HZ5.out
    · refine ⟨w5.heap.size, a5, c5, rfl, HB5.out.size, Box.new2 _ _ _ _ rfl, HO5.out.alloc _, ?_, HB5.out.alloc HB5.out.size _⟩
      exact fun e => by have := (HO5.out.lt _ e).2; omega
    · refine ⟨w4.heap.size + 1, a5, c5, rfl, by omega, ((HM5.out.set 0 _).set 1 _).set 2 _, ?_, ?_, ((HB5.out.setCell (by simp) _).setCell (by simp) _).setCell (by simp) _⟩
      · have hne : (Value.slice a5 n c5).ownBlock ≠ some (w4.heap.size + 1) := by rcases hz with h | h <;> rw [h] <;> intro e <;> injection e with e <;> omega
        exact row_set (row_set (row_set HO5.out _ _ hne) _ _ hne) _ _ hne
      · rcases hz with h | h <;> rw [h] <;> intro e <;> injection e with e <;> omega
    · refine ⟨w4.heap.size, a5, c5, rfl, Nat.le_refl _, ((HM5.out.set 0 _).set 1 _).set 2 _, ?_, ?_, ((HB5.out.setCell (by simp) _).setCell (by simp) _).setCell (by simp) _⟩
      · have hne : (Value.slice a5 n c5).ownBlock ≠ some w4.heap.size := by rcases hz with h | h <;> rw [h] <;> intro e <;> injection e with e <;> omega
        exact row_set (row_set (row_set HO5.out _ _ hne) _ _ hne) _ _ hne
      · rcases hz with h | h <;> rw [h] <;> intro e <;> injection e with e <;> omega
  case rest =>
    obtain ⟨gx, a2, c2, rfl, hgx, hbx, hrx, hnx, hwx⟩ := hcut
    have HBX := Lib.hid hbx
    have HRX := Lib.hid hrx
    have HNX := Lib.hid hnx
    have HWX := Lib.hid hwx
    have zx := hwx.size
    have hgl := hbx.lt
    have By5 := Lib.hid (By4.out.below hwx (by omega))
    have Bx5 := Lib.hid (Bx4.out.below hwx (by omega))
    have E5 := Lib.hid (row_kept E4.out (below_grown hwx) (fun _ _ => by simp))
    have O5 := Lib.hid (row_kept O4.out (below_grown hwx) (fun _ _ => by simp))
    have B5 : Hid (Below w.heap.size w wc) := Lib.hid (B4.out.trans (hwx.mono (by omega)))
    have LTX := Lib.hid hrx.lt
    obtain ⟨x0, x1, x2, fx⟩ := Bx5.out.three
    obtain ⟨y0, y1, y2, fy⟩ := By5.out.three
    obtain ⟨u0, u1, u2, fu⟩ := hbx.three
    clear hbx hrx hnx hwx
    obtain ⟨wz, rfl⟩ : ∃ wo : World, wo = wc := ⟨_, rfl⟩
    clear x0 x1 x2 fx y0 y1 y2 fy u0 u1 u2 fu
    go_wp2_with fail
    go_loopw [6, 8] (fun v i wr => RAllS N R xs l gx (w.heap.size + 2) wz v i wr) (fun _ i _ => m - (intOf i).toNat)
    case atStart =>
      refine ⟨0, N, R, xs, [], a2, c2, some ⟨w2.heap.size, 0, none⟩, 0, Nat.zero_le _, rfl, rfl, rfl, ?_, (own_ints HRX.out).1, ?_, fun q hq => ?_, row_wider E5.out (by omega), fun q hq => ?_, Below.refl _ _, by omega, by omega⟩
      · rw [HX.out]; exact HBX.out
      · rw [HX.out]; exact own_none HRX.out
      · have := own_fresh HRX.out q hq; omega
      · simp only [Value.ownBlock, Option.some.injEq] at hq; omega
    case round =>
      obtain ⟨k, v1, v2, v3, v4, av, cv, bv, dv, hk, rfl, hst, rfl, hbx, hi3, hn3, hf3, hr4, hsg, hB, hg, hG⟩ := hrel
      have hbd := rcvK_bd N R (hs := xs) (by have := HSm.out; omega) (l.take k)
      rw [hst, List.length_take] at hbd
      obtain ⟨hb3, hb4⟩ := hbd
      simp only at hb3 hb4
      rw [HL.out] at hk
      have hb4' : v4.length ≤ 440 := by omega
      have HT := Lib.hid hst
      have BX := Lib.hid hbx
      have I3 := Lib.hid hi3
      have N3 := Lib.hid hn3
      have F3 := Lib.hid hf3
      have R4 := Lib.hid hr4
      have SG := Lib.hid hsg
      have BR : Hid (Below w.heap.size w wr) := Lib.hid (B5.out.trans (hB.mono (by omega)))
      have BG := Lib.hid hB
      have zr := hB.size
      clear hst hbx hi3 hn3 hf3 hr4 hsg hB hb4
      by_cases hlt : k < m
      · obtain ⟨p1, off1, rfl, hp1, hcc⟩ := (HJ.out.below BR.out).at HL.out hlt
        have c0 := hcc k hlt
        obtain ⟨x, hx⟩ : ∃ x, l.getD k 0 = x := ⟨_, rfl⟩
        rw [hx] at c0
        have HXk := Lib.hid hx
        obtain ⟨⟨u1, u2, u3, u4, u5⟩, hu⟩ : ∃ u, rcv v1 v2 v3 x = u := ⟨_, rfl⟩
        have hub := rcv_bd v1 v2 v3 x
        rw [hu] at hub
        obtain ⟨hu3, hu4⟩ := hub
        simp only at hu3 hu4
        have HU := Lib.hid hu
        have HUL : Hid ((u4.map (Value.int .i64)).length = u4.length * 1) := Lib.hid (by simp)
        obtain ⟨x0, x1, x2, fx⟩ := BX.out.three
        have hk1 : (0 : Int) ≤ (k : Int) := by omega
        have hk2 : (k : Int) < (m : Int) := by omega
        clear hcc hx hu fx
        go_upto_region 9 with fail
        go_cut [9, 10] (fun s9 s10 wx => NRel u1 u2 u3 u4 wr s9 s10 wx)
        case first =>
          have hD0 : Below wr.heap.size wr wr.drew := ⟨rfl, rfl, rfl, Nat.le_refl _, fun _ _ => rfl⟩
          have hD1 : Below wr.heap.size wr (wr.alloc (.cells #[.int .i64 0, .int .i64 0, .slice none 0 0] 52)).drew := ((Below.refl _ _).alloc (Nat.le_refl _) _).drew
          go_region_held3 (fun w' => w'.cell? ⟨gx, 0, none⟩ = some (.int .i64 v1) ∧ w'.cell? ⟨gx, 1, none⟩ = some (.int .i64 v2) ∧ w'.cell? ⟨gx, 2, none⟩ = some (.slice av v3.length cv) ∧ w'.cell? ⟨p1, off1 + k, none⟩ = some (.int .i64 x) ∧ Below wr.heap.size wr w') (first | (with_reducible exact ⟨keepD0 x0, keepD0 x1, keepD0 x2, keepD0 c0, hD0⟩) | (with_reducible exact ⟨keepD1 x0 _, keepD1 x1 _, keepD1 x2 _, keepD1 c0 _, hD1⟩) | (with_reducible exact ⟨kk0, kk1, kk2, kk3, kk4⟩) | (with_reducible exact ⟨keep kk0 _, keep kk1 _, keep kk2 _, keep kk3 _, kk5⟩) | (with_reducible exact ⟨keep kk0 _, keep kk1 _, keep kk2 _, keep kk3 _, kk6⟩) | (with_reducible exact ⟨keepS kk0 (by omega), keepS kk1 (by omega), keepS kk2 (by omega), keepS kk3 (by omega), kk6⟩) | (trace "KEEP"; trace_state; fail))
            (first
              | (go_at_call 30; (with_reducible refine (s_Rcv_v HU.out av v3.length cv (wr.alloc (.cells #[.int .i64 0, .int .i64 0, .slice none 0 0] 52)).drew rfl (by omega) (I3.out.below hD1) N3.out).mono ?_); rintro e w' ⟨a5, c5, b5, d5, rfl, o5, p5, n5, m5, f5, r5, g5⟩
                 have kk0 : w'.cell? ⟨gx, 0, none⟩ = some (.int .i64 v1) := (g5.cell (p := ⟨gx, 0, none⟩) (World.block_lt_of_cell? _ _ (keepD1 x0 _))).trans (keepD1 x0 _)
                 have kk1 : w'.cell? ⟨gx, 1, none⟩ = some (.int .i64 v2) := (g5.cell (p := ⟨gx, 1, none⟩) (World.block_lt_of_cell? _ _ (keepD1 x1 _))).trans (keepD1 x1 _)
                 have kk2 : w'.cell? ⟨gx, 2, none⟩ = some (.slice av v3.length cv) := (g5.cell (p := ⟨gx, 2, none⟩) (World.block_lt_of_cell? _ _ (keepD1 x2 _))).trans (keepD1 x2 _)
                 have kk3 : w'.cell? ⟨p1, off1 + k, none⟩ = some (.int .i64 x) := (g5.cell (p := ⟨p1, off1 + k, none⟩) (World.block_lt_of_cell? _ _ (keepD1 c0 _))).trans (keepD1 c0 _)
                 have kk4 : Below wr.heap.size wr w' := hD1.trans (g5.mono (by simp))
                 have kk5 : Below wr.heap.size wr (w'.alloc (.cells #[.int .i64 0, .int .i64 0, .slice none 0 0] 52)) := kk4.alloc kk4.size _
                 have kl : gx < w'.heap.size ∧ p1 < w'.heap.size := ⟨by have := kk4.size; omega, by have := kk4.size; omega⟩
                 have kk6 : Below wr.heap.size wr (((w'.setCell ⟨wr.heap.size, 0, none⟩ (.int .i64 u1)).setCell ⟨wr.heap.size, 1, none⟩ (.int .i64 u2)).setCell ⟨wr.heap.size, 2, none⟩ (.slice a5 u3.length c5)) := ((kk4.setCell (by simp) _).setCell (by simp) _).setCell (by simp) _
                 have O5 := Lib.hid o5
                 have P5 := Lib.hid p5
                 have N5 := Lib.hid n5
                 have M5 := Lib.hid m5
                 have F5 : Hid (∀ q, a5 = some q → wr.heap.size + 1 ≤ q.block) := Lib.hid (fun q hq => by have := f5 q hq; simpa using this)
                 have E5' := (Box.new2 wr 52 [.int .i64 0, .int .i64 0, .slice none 0 0] wr.heap.size rfl).drew.keep g5
                 have E5 := Lib.hid E5'
                 obtain ⟨m0, m1, m2, mf⟩ := E5'.three
                 have R5 := Lib.hid r5
                 clear o5 p5 n5 m5 f5 r5 g5)
              | (go_at_call 30; (with_reducible refine (s_Rcv_v HU.out av v3.length cv wr.drew rfl (by omega) (I3.out.below hD0) N3.out).mono ?_); rintro e w' ⟨a5, c5, b5, d5, rfl, o5, p5, n5, m5, f5, r5, g5⟩
                 have kk0 : w'.cell? ⟨gx, 0, none⟩ = some (.int .i64 v1) := (g5.cell (p := ⟨gx, 0, none⟩) (World.block_lt_of_cell? _ _ (keepD0 x0))).trans (keepD0 x0)
                 have kk1 : w'.cell? ⟨gx, 1, none⟩ = some (.int .i64 v2) := (g5.cell (p := ⟨gx, 1, none⟩) (World.block_lt_of_cell? _ _ (keepD0 x1))).trans (keepD0 x1)
                 have kk2 : w'.cell? ⟨gx, 2, none⟩ = some (.slice av v3.length cv) := (g5.cell (p := ⟨gx, 2, none⟩) (World.block_lt_of_cell? _ _ (keepD0 x2))).trans (keepD0 x2)
                 have kk3 : w'.cell? ⟨p1, off1 + k, none⟩ = some (.int .i64 x) := (g5.cell (p := ⟨p1, off1 + k, none⟩) (World.block_lt_of_cell? _ _ (keepD0 c0))).trans (keepD0 c0)
                 have kk4 : Below wr.heap.size wr w' := hD0.trans (g5.mono (Nat.le_refl _))
                 have kk5 : Below wr.heap.size wr (w'.alloc (.cells #[.int .i64 0, .int .i64 0, .slice none 0 0] 52)) := kk4.alloc kk4.size _
                 have kl : gx < w'.heap.size ∧ p1 < w'.heap.size := ⟨by have := kk4.size; omega, by have := kk4.size; omega⟩
                 have kk6 : Below wr.heap.size wr (w'.alloc (.cells #[.int .i64 u1, .int .i64 u2, .slice a5 u3.length c5] 52)) := kk4.alloc kk4.size _
                 have O5 := Lib.hid o5
                 have P5 := Lib.hid p5
                 have N5 := Lib.hid n5
                 have M5 := Lib.hid m5
                 have F5 : Hid (∀ q, a5 = some q → wr.heap.size ≤ q.block) := Lib.hid f5
                 have R5 := Lib.hid r5
                 clear o5 p5 n5 m5 f5 r5 g5))
          all_goals
            go_wp2_with fail
            go_meet
          · exact ⟨w'.heap.size, a5, c5, b5, d5, rfl, rfl, kk4.size, Box.new2 _ _ _ _ rfl, O5.out.below ((Below.refl _ _).alloc (Nat.le_refl _) _), P5.out.below ((Below.refl _ _).alloc (Nat.le_refl _) _), N5.out, M5.out, F5.out, R5.out, kk6⟩
          · have ha5 : ∀ q, a5 = some q → q.block ≠ wr.heap.size := fun q hq => by have := F5.out q hq; omega
            refine ⟨wr.heap.size, a5, c5, b5, d5, rfl, rfl, Nat.le_refl _, ((E5.out.set 0 _).set 1 _).set 2 _, Ints.set (Ints.set (Ints.set O5.out _ _ ha5) _ _ ha5) _ _ ha5, ?_, N5.out, M5.out, fun q hq => (by have := F5.out q hq; omega), R5.out.imp id (fun h q hq => by have h9 := h q hq; simp at h9; omega), kk6⟩
            rcases R5.out with h | h
            · exact .inl h
            · have hb5 : ∀ q, b5 = some q → q.block ≠ wr.heap.size := fun q hq => by have h9 := h q hq; simp at h9; omega
              exact Ints.set (Ints.set (Ints.set P5.out _ _ hb5) _ _ hb5) _ _ hb5
        case rest =>
          obtain ⟨g9, a5, c5, b5, d5, rfl, rfl, hg9, hbx9, o5, p5, n5, m5, f5, r5, hB9⟩ := hcut
          obtain ⟨w5, rfl⟩ : ∃ wo : World, wo = wc := ⟨_, rfl⟩
          have z5 := hB9.size
          have O5 := Lib.hid o5
          have P5 := Lib.hid p5
          have N5 := Lib.hid n5
          have M5 := Lib.hid m5
          have F5 := Lib.hid f5
          have BX5 := Lib.hid (BX.out.keep hB9)
          have R45 := Lib.hid (row_below R4.out hB9)
          have L4 := Lib.hid (fun k hk => R4.out.lt k hk)
          have B5r := Lib.hid (BG.out.trans (hB9.mono (by omega)))
          have lg9 := hbx9.lt
          have ne9 : gx ≠ g9 := by omega
          have R5 := Lib.hid r5
          clear o5 p5 n5 m5 f5 r5 hB9 x0 x1 x2
          obtain ⟨x0, x1, x2, fx⟩ := BX5.out.three
          obtain ⟨q0, q1, q2, fq⟩ := hbx9.three
          obtain ⟨w7, hw7⟩ : ∃ W, W = (((w5.setCell ⟨gx, 0, none⟩ (.int .i64 u1)).setCell ⟨gx, 1, none⟩ (.int .i64 u2)).setCell ⟨gx, 2, none⟩ (.slice a5 u3.length c5)) := ⟨_, rfl⟩
          have ha5 : ∀ q, a5 = some q → q.block ≠ gx := fun q hq => by have := F5.out q hq; omega
          have hne5 : (Value.slice bv v4.length dv).ownBlock ≠ some gx := fun e => SG.out _ e rfl
          have O7 : Hid (Ints w7 a5 u3) := Lib.hid (by rw [hw7]; exact Ints.set (Ints.set (Ints.set O5.out _ _ ha5) _ _ ha5) _ _ ha5)
          have R47 : Hid (w7.ownsRow (w.heap.size + 2) 3 1 (.slice bv v4.length dv) v4.length (v4.map (Value.int .i64))) := Lib.hid (by rw [hw7]; exact row_set (row_set (row_set R45.out _ _ hne5) _ _ hne5) _ _ hne5)
          have BX7 : Hid (Box w7 gx 52 [.int .i64 u1, .int .i64 u2, .slice a5 u3.length c5]) := Lib.hid (by rw [hw7]; exact ((BX5.out.set 0 _).set 1 _).set 2 _)
          have B7 : Hid (Below (w.heap.size + 2) wz w7) := Lib.hid (by rw [hw7]; exact ((B5r.out.setCell (by simp; omega) _).setCell (by simp; omega) _).setCell (by simp; omega) _)
          have z7 : w5.heap.size ≤ w7.heap.size := by rw [hw7]; simp
          have P7 : Hid (Ints w7 b5 u4) := Lib.hid (by
            rcases R5.out with h | h
            · exact .inl h
            · have hb5 : ∀ q, b5 = some q → q.block ≠ gx := fun q hq => by have := h q hq; omega
              rw [hw7]; exact Ints.set (Ints.set (Ints.set P5.out _ _ hb5) _ _ hb5) _ _ hb5)
          have HW7 := Lib.hid hw7
          clear hw7 ha5 hne5
          go_upto_region 11 with fail
          rw [← HW7.out]
          clear x0 x1 x2 fx q0 q1 q2 fq
          go_wp2_with (at_builtin; refine wpl_appA _ rfl elemI (.tmp 51) (.tmp 52) rfl (w.heap.size + 2) (.slice bv v4.length dv) v4.length (v4.map (Value.int .i64)) rfl R47.out b5 u4.length d5 (u4.map (Value.int .i64)) rfl P7.out.vals HUL.out (ints_one _) M5.out (by omega) (by omega) (v4.length + u4.length) rfl ((v4 ++ u4).map (Value.int .i64)) (by rw [List.map_append]) ?_)
          intro b8 d8 w8 hown hgrow hat
          have O8 := Lib.hid hown
          have T8 := Lib.hid hat
          have G8 := Lib.hid hgrow
          clear hown hgrow hat
          go_wp2
          go_roundw
          case rel =>
            have zl : w7.heap.size ≤ w8.heap.size := G8.out.size
            have hsame : rcvK N R xs (l.take (k + 1)) = (u1, u2, u3, v4 ++ u4) := by
              rw [rcvK_succ (by rw [HL.out]; exact hlt), HT.out, HXk.out]
              simp only [rcvS, HU.out]
            have hbk : ∀ q, (Value.slice b8 (v4.length + u4.length) d8).ownBlock = some q → (Value.slice bv v4.length dv).ownBlock = some q ∨ q = w7.heap.size := fun q hq => by
              rcases T8.out with h | h
              · exact .inl (h.symm.trans hq)
              · rw [h] at hq; injection hq with hq; exact .inr hq.symm
            refine ⟨k + 1, u1, u2, u3, v4 ++ u4, a5, c5, b8, d8, by rw [HL.out]; omega, by go_num, hsame, by rw [List.length_append], ?_, ?_, N5.out, fun q hq => (by have := F5.out q hq; omega), by rw [List.length_append, List.map_append]; exact O8.out, ?_, ?_, by omega, by omega⟩
            · exact (G8.out.block _ BX7.out.lt (fun e => SG.out _ e.symm rfl)).trans BX7.out
            · refine Ints.kept O7.out G8.out (fun q hq h => ?_)
              have h1 := F5.out q hq
              have h2 := (L4.out q.block h.symm).2
              omega
            · intro q hq
              rw [List.length_append] at hq
              rcases hbk q hq with h | h
              · exact SG.out q h
              · omega
            · exact B7.out.grown G8.out (by omega) (fun q hq => (L4.out q hq).1)
          case measure => simp [intOf]; omega
      · obtain rfl : k = m := by omega
        have QR := Lib.hid (By5.out.below BG.out (by omega))
        obtain ⟨x0, x1, x2, fx⟩ := BX.out.three
        obtain ⟨y0, y1, y2, fy⟩ := QR.out.three
        go_wp2
        have hb := BR.out
        have hne3 : ∀ q, av = some q → q.block ≠ w.heap.size + 1 := fun q hq => by have := F3.out q hq; omega
        have hne4 : (Value.slice bv v4.length dv).ownBlock ≠ some (w.heap.size + 1) := fun e => by have := (R4.out.lt _ e).1; omega
        refine bodyPost_ret (v := .tuple #[.agg #[.int .i64 v1, .int .i64 v2, .slice av v3.length cv], .slice bv v4.length dv]) (by simp [results, Try.results44, go_sem, y0, y1, y2]) rfl ?_
        have hT := HT.out
        rw [List.take_of_length_le (by rw [HL.out]; exact Nat.le_refl _)] at hT
        rw [hT]
        exact ⟨av, cv, bv, dv, rfl, Ints.set (Ints.set (Ints.set I3.out _ _ hne3) _ _ hne3) _ _ hne3, (own_ints (row_set (row_set (row_set R4.out _ _ hne4) _ _ hne4) _ _ hne4)).1, by go_grown⟩
theorem s_ReceiveAll (N R : Int) (a : Option Addr) (n cap : Nat) (xs : List Int) (b : Option Addr) (m cap' : Nat) (l : List Int) (w : World) (hxs : xs.length = n) (hn : n ≤ 1048576) (h : Ints w a xs) (ha : a = none → n = 0 ∧ cap = 0) (hl : l.length = m) (hj : Ints w b l) (hm : m ≤ 1048576) :
    Calls Try.prog 44 #[.agg #[.int .i64 N, .int .i64 R, .slice a n cap], .slice b m cap'] w (RetRB w (rcvA N R xs l)) := by
  cases hv : rv N R xs
  · rw [rcvA, if_pos (.inl hv)]
    exact s_RA_bad1 N R a n cap xs b m cap' l w hxs hn h ha hl hj hv
  · by_cases hb : 40 < m
    · rw [rcvA, if_pos (.inr (by rw [hl]; exact hb))]
      exact s_RA_bad2 N R a n cap xs b m cap' l w hxs hn h ha hl hj hv (by omega)
    · rw [rcvA, if_neg (by rw [hl, hv]; simp; omega)]
      exact s_RA_good N R a n cap xs b m cap' l w hxs hn h ha hl hj hv (by omega)
end Go.Proofs.Ytalalapjanckdaa
