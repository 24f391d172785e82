/- Contracts of Receive, of the program and of the reference, whole. No condition but lists of at most 2^20 numbers. -/
import Derived.Test.YtalalapjanckdaaRcvIA
import Derived.Test.YtalalapjanckdaaRcvIB
import Derived.Test.YtalalapjanckdaaRcvU
import Derived.Test.YtalalapjanckdaaRcvO
namespace Go.Proofs.Ytalalapjanckdaa
open Go.RowKit
theorem asc_ge (N : Int) : ∀ (hs : List Int), hs.Pairwise (· < ·) → (∀ x ∈ hs, N < x) → ∀ x ∈ hs.getLast?, N + hs.length ≤ x
  | [], _, _, x, h => by simp at h
  | [y], _, h1, x, h => by
    simp at h; subst h
    have := h1 y (by simp); simp; omega
  | y :: z :: t, hp, h1, x, h => by
    obtain ⟨hy, hp'⟩ := List.pairwise_cons.1 hp
    have := asc_ge y (z :: t) hp' (fun u hu => hy u hu) x (by rw [List.getLast?_cons_cons] at h; exact h)
    have h2 := h1 y (by simp)
    simp only [List.length_cons] at this ⊢
    omega
theorem rv_small {N R : Int} {hs : List Int} (h : rv N R hs = true) : hs.length ≤ 10 := by
  obtain ⟨⟨b1, b2⟩, ⟨b3, b4⟩, h5, h6⟩ := (rv_iff N R hs).1 h
  cases hl : hs.getLast? with
  | none => rw [List.getLast?_eq_none_iff] at hl; subst hl; simp
  | some x =>
    have := asc_ge N hs h6 (fun u hu => (h5 u hu).1) x hl
    have := (h5 x (List.mem_of_getLast? hl)).2
    omega
set_option maxHeartbeats 800000 in
theorem c_Rc_badW (N R : Int) (a : Option Addr) (n cap : Nat) (xs : List Int) (x : Int) (w : World) (hxs : xs.length = n) (hn : n ≤ 1048576) (h : Ints w a xs) (hv : rv N R xs = false) :
    Calls Try.prog 29 #[.agg #[.int .i64 N, .int .i64 R, .slice a n cap], .int .i64 x] w (RetRc w (rcv N R xs x)) := by
  rw [rcv_bad hv]
  obtain ⟨W0, hW, g0, hs, bx, bY⟩ := head2 (N := N) (R := R) (a := a) (n := n) (cap := cap) w
  have HX := Lib.hid hxs
  have HW := Lib.hid hW
  have HG := Lib.hid g0
  have HS := Lib.hid hs
  have HI := Lib.hid (h.below g0)
  have HBx := Lib.hid bx
  have HBy := Lib.hid bY
  clear hxs hW g0 hs h bx bY
  go_enter Try.func29, Try.ntmps29
  go_wp2_with fail
  rw [← HW.out]
  refine (c_ReceiverValid N R a n cap xs _ HX.out (by omega) HI.out).mono ?_; rintro e w1 ⟨rfl, b1⟩
  rw [hv]
  have B1 := Lib.hid b1
  have z1 := b1.size
  rw [HS.out] at z1
  obtain ⟨x0, x1, x2, fx⟩ := (HBx.out.keep b1).three
  obtain ⟨y0, y1, y2, fy⟩ := (HBy.out.keep b1).three
  clear b1 x0 x1 x2 fx
  go_wp2
  have hq : Below w.heap.size w w1 := HG.out.trans (B1.out.mono (by rw [HS.out]; omega))
  refine bodyPost_ret (v := .tuple #[.agg #[.int .i64 0, .int .i64 0, .slice none 0 0], .slice none 0 0, .bool false]) (by simp [results, Try.results29, go_sem, y0, y1, y2]) rfl ?_
  exact ⟨none, 0, none, 0, rfl, row_nil _ _ _ _, row_nil _ _ _ _, fun k hk => by simp [Value.ownBlock] at hk, by go_grown⟩
set_option maxRecDepth 100000 in
set_option maxHeartbeats 1600000 in
theorem s_Rc_badW (N R : Int) (a : Option Addr) (n cap : Nat) (xs : List Int) (x : Int) (w : World) (hxs : xs.length = n) (hn : n ≤ 1048576) (h : Ints w a xs) (ha : a = none → n = 0 ∧ cap = 0) (hv : rv N R xs = false) :
    Calls Try.prog 30 #[.agg #[.int .i64 N, .int .i64 R, .slice a n cap], .int .i64 x] w (RetRc w (rcv N R xs x)) := by
  rw [rcv_bad hv]
  obtain ⟨W0, hW, g0, hs, bx, bY⟩ := head2 (N := N) (R := R) (a := a) (n := n) (cap := cap) w
  have HX := Lib.hid hxs
  have HW := Lib.hid hW
  have HG := Lib.hid g0
  have HS := Lib.hid hs
  have HI := Lib.hid (h.below g0)
  have HA := Lib.hid ha
  have HBx := Lib.hid bx
  have HBy := Lib.hid bY
  have HV := Lib.hid hv
  clear hxs hW g0 hs h ha bx bY hv
  go_enter Try.func30, Try.ntmps30
  go_wp2_with fail
  rw [← HW.out]
  refine (s_ownR N R a n cap xs _ HX.out (by omega) HI.out HA.out).mono ?_; rintro e w2 ⟨a', c', rfl, o2, g2, n2⟩
  have HN2 := Lib.hid n2
  rw [HX.out] at o2 ⊢
  have O2 := Lib.hid o2
  have LT := Lib.hid o2.lt
  rw [HS.out] at LT
  have B2 : Hid (Below w.heap.size w w2) := Lib.hid (HG.out.trans ((grown_below g2).mono (by rw [HS.out]; omega)))
  have z2 := g2.size
  rw [HS.out] at z2
  have Bx2 := Lib.hid (HBx.out.keep (grown_below g2))
  have By2 := Lib.hid (HBy.out.keep (grown_below g2))
  obtain ⟨x0, x1, x2, fx⟩ := Bx2.out.three
  have hne : (Value.slice a' n c').ownBlock ≠ some w.heap.size := fun e => by have := (LT.out _ e).1; omega
  obtain ⟨W3, hW3⟩ : ∃ W3, W3 = (((w2.setCell ⟨w.heap.size, 0, none⟩ (.int .i64 N)).setCell ⟨w.heap.size, 1, none⟩ (.int .i64 R)).setCell ⟨w.heap.size, 2, none⟩ (.slice a' n c')).alloc (.cells #[] 3) := ⟨_, rfl⟩
  have z3 : W3.heap.size = w2.heap.size + 1 := by rw [hW3]; simp
  have B3 : Hid (Below w.heap.size w W3) := Lib.hid (by rw [hW3]; exact (((B2.out.setCell (by simp) _).setCell (by simp) _).setCell (by simp) _).alloc (by simp; omega) _)
  have Bx3 : Hid (Box W3 w.heap.size 52 [.int .i64 N, .int .i64 R, .slice a' n c']) := Lib.hid (by rw [hW3]; exact (((Bx2.out.set 0 _).set 1 _).set 2 _).alloc _)
  have By3 : Hid (Box W3 (w.heap.size + 1) 52 [.int .i64 0, .int .i64 0, .slice none 0 0]) := Lib.hid (by rw [hW3]; exact (((By2.out.other (by simp) _).other (by simp) _).other (by simp) _).alloc _)
  have O3 : Hid (W3.ownsRow w.heap.size 3 1 (.slice a' n c') n (xs.map (Value.int .i64))) := Lib.hid (by rw [hW3]; exact row_wider ((row_set (row_set (row_set O2.out _ _ hne) _ _ hne) _ _ hne).alloc _) (by rw [HS.out]; omega))
  have E3 : Hid (W3.ownsRow w2.heap.size 3 1 (.slice (some ⟨w2.heap.size, 0, none⟩) 0 0) 0 (([] : List Int).map (Value.int .i64))) := Lib.hid (by rw [hW3]; exact row_emp _ _ _ _ (by simp) (Nat.le_refl _))
  have HW3 := Lib.hid hW3
  have HZ3 := Lib.hid z3
  clear o2 g2 n2 hW3 hne z3
  obtain ⟨q0, q1, q2, fq⟩ := Bx3.out.three
  go_upto_region 3 with fail
  rw [← HW3.out]
  clear x0 x1 x2 fx
  go_wp2_with fail
  clear q0 q1 q2 fq
  refine (s_ReceiverValid N R a' n c' xs _ HX.out (by omega) (own_ints O3.out).1).mono ?_; rintro e w4 ⟨rfl, b4⟩
  rw [HV.out]
  have B4 : Hid (Below w.heap.size w w4) := Lib.hid (B3.out.trans (b4.mono (by rw [HZ3.out]; omega)))
  have z4 : w2.heap.size + 1 ≤ w4.heap.size := by have := b4.size; rw [HZ3.out] at this; exact this
  have Bx4 := Lib.hid (Bx3.out.keep b4)
  have By4 := Lib.hid (By3.out.keep b4)
  have O4 := Lib.hid (row_below O3.out b4)
  have E4 := Lib.hid (row_below E3.out b4)
  have JA := Lib.hid (own_none O4.out)
  have V4 : Hid (Vals w4 a' (xs.map (Value.int .i64))) := Lib.hid (row_vals O4.out)
  clear b4
  obtain ⟨y0, y1, y2, fy⟩ := By4.out.three
  go_wp2
  refine bodyPost_ret (v := .tuple #[.agg #[.int .i64 0, .int .i64 0, .slice none 0 0], .slice (some ⟨w2.heap.size, 0, none⟩) 0 0, .bool false]) (by simp [results, Try.results30, go_sem, y0, y1, y2]) rfl ?_
  have hb := B4.out
  have hne : (Value.slice (some ⟨w2.heap.size, 0, none⟩) 0 0).ownBlock ≠ some (w.heap.size + 1) := by simp [Value.ownBlock]; omega
  exact ⟨none, 0, some ⟨w2.heap.size, 0, none⟩, 0, rfl, row_nil _ _ _ _, row_wider (row_set (row_set (row_set E4.out _ _ hne) _ _ hne) _ _ hne) (by omega), fun k hk => by simp [Value.ownBlock] at hk, by go_grown⟩
theorem c_Receive' (N R : Int) (a : Option Addr) (n cap : Nat) (xs : List Int) (x : Int) (w : World) (hxs : xs.length = n) (hn : n ≤ 1048576) (h : Ints w a xs) (ha : a = none → n = 0 ∧ cap = 0) :
    Calls Try.prog 29 #[.agg #[.int .i64 N, .int .i64 R, .slice a n cap], .int .i64 x] w (RetRc w (rcv N R xs x)) := by
  cases hv : rv N R xs
  · exact c_Rc_badW N R a n cap xs x w hxs hn h hv
  · exact c_Receive N R a n cap xs x w hxs (by have := rv_small hv; omega) h ha
theorem s_Receive (N R : Int) (a : Option Addr) (n cap : Nat) (xs : List Int) (x : Int) (w : World) (hxs : xs.length = n) (hn : n ≤ 1048576) (h : Ints w a xs) (ha : a = none → n = 0 ∧ cap = 0) :
    Calls Try.prog 30 #[.agg #[.int .i64 N, .int .i64 R, .slice a n cap], .int .i64 x] w (RetRs w (rcv N R xs x)) := by
  cases hv : rv N R xs
  · exact (s_Rc_badW N R a n cap xs x w hxs hn h ha hv).mono fun _ _ h => h.rs
  have hn' : n ≤ 1000000 := by have := rv_small hv; omega
  by_cases h1 : x < N
  · exact (s_Rc_same N R a n cap xs x w hxs hn' h ha hv (.inl h1)).mono fun _ _ h => h.rs
  cases h2 : xs.contains x
  · by_cases h3 : N + R ≤ x
    · exact (s_Rc_far N R a n cap xs x w hxs hn' h ha hv h1 h2 h3).mono fun _ _ h => h.rs
    · by_cases hK : xs.countP (· < x) < n
      · exact s_Rc_insA N R a n cap xs x w hxs hn' h ha hv (by omega) h2 (by omega) hK
      · exact s_Rc_insB N R a n cap xs x w hxs hn' h ha hv (by omega) h2 (by omega) hK
  · exact (s_Rc_same N R a n cap xs x w hxs hn' h ha hv (.inr h2)).mono fun _ _ h => h.rs
end Go.Proofs.Ytalalapjanckdaa
