/- The walk of the law FnBreakerAllows: true for all bytes. No condition. -/
import Derived.Test.YtkfldnohmoleaaaDBrkV
namespace Go.Proofs.Ytkfldnohmoleaaa
open Go.RowKit
theorem allows_zero (now : Int) : allowsB 0 0 now = inB now 0 100000 := by
  simp only [allowsB, bv_zero, Bool.true_and]
  cases h : inB now 0 100000
  · rfl
  · have := inB_true.1 h
    simp [this.1]
theorem allows_next {f u now : Int} (h : allowsB f u now = true) : now = 100000 ∨ allowsB f u (now + 1) = true := by
  simp only [allowsB, Bool.and_eq_true, inB_true, decide_eq_true_eq] at h ⊢
  obtain ⟨⟨h1, h2, h3⟩, h4⟩ := h
  by_cases hn : now = 100000
  · exact .inl hn
  · exact .inr ⟨⟨h1, by omega, by omega⟩, by omega⟩
theorem allows_bv {f u now : Int} (h : allowsB f u now = true) : bv f u = true ∧ inB now 0 100000 = true := by
  simp only [allowsB, Bool.and_eq_true] at h
  exact h.1
set_option maxHeartbeats 1000000 in
theorem walkBreakerAllows (a : Option Addr) (n cap : Nat) (z : List Int) (w : World) (w0 : IsRow .u8 w a n cap z) :
    Calls Try.prog 6 #[.slice a n cap] w fun e w' => e = .returned (.bool true) ∧ Below w.heap.size w w' := by
  by_cases hbig : 1048576 < n
  · have hb' : (1048576 : Int) < (n : Int) := by omega
    go_enter Try.func6, Try.ntmps6
    go_wp2
    go_ret
    exact ⟨rfl, Below.refl _ _⟩
  have hn' : (n : Int) ≤ 1048576 := by omega
  obtain ⟨hcl, hcap⟩ := w0.caps
  have HC := Lib.hid w0.code
  clear w0 hbig
  go_enter Try.func6, Try.ntmps6
  go_wp2_with fail
  refine (s_DrawBreakerAllows a n cap _ hcl hcap HC.out).mono ?_
  rintro e w1 ⟨m, s, k, rfl, m1, m2, s1, s2, k1, k2, b1⟩
  have z1 := b1.size
  have Q1 := Lib.hid (b1.alloc z1 (.cells #[.int .i64 m, .int .i64 s] 25))
  have HB := Lib.hid (Box.new w1 25 [.int .i64 m, .int .i64 s])
  clear b1
  go_wp2_with fail
  refine (c_BreakerAllows _ _ _ _).mono ?_; rintro e w2 ⟨rfl, b2⟩
  have Q2 := Lib.hid (Below.step Q1.out b2 (by simp only [World.size_alloc]; omega))
  have z2 := b2.size
  simp only [World.size_alloc] at z2
  have HB2 := Lib.hid (HB.out.keep b2)
  have x0 := HB2.out.cell 0
  have x1 := HB2.out.cell 1
  simp only [List.getElem?_cons_zero, List.getElem?_cons_succ] at x0 x1
  clear b2
  have HN := Lib.hid (allows_zero k)
  cases hok : allowsB m s k
  · go_wp2_with fail
    refine (s_BreakerAllows _ _ _ _).mono ?_; rintro e w3 ⟨rfl, b3⟩
    have Q3 := Lib.hid (Below.step Q2.out b3 (by omega))
    have z3 := b3.size
    have HB3 := Lib.hid (HB2.out.keep b3)
    have y0 := HB3.out.cell 0
    have y1 := HB3.out.cell 1
    simp only [List.getElem?_cons_zero, List.getElem?_cons_succ] at y0 y1
    rw [hok]
    clear b3 x0 x1 hok
    cases hb : bv m s
    · go_wp2_with fail
      refine (c_BreakerValid _ _ _).mono ?_; rintro e w4 ⟨rfl, b4⟩
      have Q4 := Lib.hid (Below.step Q3.out b4 (by omega))
      have z4 := b4.size
      rw [hb]
      clear b4
      go_wp2_with fail
      refine (c_alive _).mono ?_; rintro e w6 ⟨rfl, b6⟩
      have Q6 := Below.step Q4.out b6 (by omega)
      go_wp2_with fail
      go_ret
      exact ⟨rfl, Q6⟩
    · have hk : k < 0 ∨ (0 ≤ k ∧ k ≤ 100000) ∨ (0 ≤ k ∧ 100000 < k) := by omega
      rcases hk with hk | ⟨hk, hk2⟩ | ⟨hk, hk2⟩
      all_goals
        go_wp2_with fail
        refine (c_BreakerValid _ _ _).mono ?_; rintro e w4 ⟨rfl, b4⟩
        have Q4 := Lib.hid (Below.step Q3.out b4 (by omega))
        have z4 := b4.size
        rw [hb]
        clear b4
        go_wp2_with fail
        refine (c_BreakerAllows _ _ _ _).mono ?_; rintro e w5 ⟨rfl, b5⟩
        have Q5 := Lib.hid (Below.step Q4.out b5 (by omega))
        have z5 := b5.size
        first
          | rw [HN.out, show inB k 0 100000 = true from inB_true.2 (by omega)]
          | rw [HN.out, show inB k 0 100000 = false from inB_false.2 (by omega)]
        clear b5
        go_wp2_with fail
        refine (c_alive _).mono ?_; rintro e w6 ⟨rfl, b6⟩
        have Q6 := Below.step Q5.out b6 (by omega)
        go_wp2_with fail
        go_ret
        first
          | exact ⟨rfl, Q6⟩
          | exact ⟨ret_bool (a := !decide (k ≤ 100000)) (b := true) (by simp; omega), Q6⟩
  · obtain ⟨hb, hn⟩ := allows_bv hok
    obtain ⟨hk, hk2⟩ := inB_true.1 hn
    have hnx := allows_next hok
    by_cases hmax : k = 100000
    · subst hmax
      go_wp2_with fail
      refine (s_BreakerAllows _ _ _ _).mono ?_; rintro e w3 ⟨rfl, b3⟩
      have Q3 := Lib.hid (Below.step Q2.out b3 (by omega))
      have z3 := b3.size
      have HB3 := Lib.hid (HB2.out.keep b3)
      have y0 := HB3.out.cell 0
      have y1 := HB3.out.cell 1
      simp only [List.getElem?_cons_zero, List.getElem?_cons_succ] at y0 y1
      rw [hok]
      clear b3 x0 x1 hok hnx
      go_wp2_with fail
      refine (c_BreakerValid _ _ _).mono ?_; rintro e w4 ⟨rfl, b4⟩
      have Q4 := Lib.hid (Below.step Q3.out b4 (by omega))
      have z4 := b4.size
      rw [hb]
      clear b4
      go_wp2_with fail
      refine (c_BreakerAllows _ _ _ _).mono ?_; rintro e w5 ⟨rfl, b5⟩
      have Q5 := Lib.hid (Below.step Q4.out b5 (by omega))
      have z5 := b5.size
      rw [HN.out, hn]
      clear b5
      go_wp2_with fail
      refine (c_alive _).mono ?_; rintro e w6 ⟨rfl, b6⟩
      have Q6 := Below.step Q5.out b6 (by omega)
      go_wp2_with fail
      go_ret
      exact ⟨rfl, Q6⟩
    · have hnx : allowsB m s (k + 1) = true := hnx.resolve_left hmax
      go_wp2_with fail
      refine (s_BreakerAllows _ _ _ _).mono ?_; rintro e w3 ⟨rfl, b3⟩
      have Q3 := Lib.hid (Below.step Q2.out b3 (by omega))
      have z3 := b3.size
      have HB3 := Lib.hid (HB2.out.keep b3)
      have y0 := HB3.out.cell 0
      have y1 := HB3.out.cell 1
      simp only [List.getElem?_cons_zero, List.getElem?_cons_succ] at y0 y1
      rw [hok]
      clear b3 x0 x1 hok
      go_wp2_with fail
      refine (c_BreakerAllows _ _ _ _).mono ?_; rintro e w7 ⟨rfl, b7⟩
      have Q7 := Lib.hid (Below.step Q3.out b7 (by omega))
      have z7 := b7.size
      have HB7 := Lib.hid (HB3.out.keep b7)
      have v0 := HB7.out.cell 0
      have v1 := HB7.out.cell 1
      simp only [List.getElem?_cons_zero, List.getElem?_cons_succ] at v0 v1
      rw [hnx]
      clear b7 y0 y1 hnx
      go_wp2_with fail
      refine (c_BreakerValid _ _ _).mono ?_; rintro e w4 ⟨rfl, b4⟩
      have Q4 := Lib.hid (Below.step Q7.out b4 (by omega))
      have z4 := b4.size
      rw [hb]
      clear b4
      go_wp2_with fail
      refine (c_BreakerAllows _ _ _ _).mono ?_; rintro e w5 ⟨rfl, b5⟩
      have Q5 := Lib.hid (Below.step Q4.out b5 (by omega))
      have z5 := b5.size
      rw [HN.out, hn]
      clear b5
      go_wp2_with fail
      refine (c_alive _).mono ?_; rintro e w6 ⟨rfl, b6⟩
      have Q6 := Below.step Q5.out b6 (by omega)
      go_wp2_with fail
      go_ret
      exact ⟨rfl, Q6⟩
end Go.Proofs.Ytkfldnohmoleaaa
