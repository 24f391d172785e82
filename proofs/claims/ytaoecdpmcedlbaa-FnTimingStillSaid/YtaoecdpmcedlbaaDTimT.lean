/- The walks of the laws FnTimingStep and FnTimingStill: true for all bytes. No condition. -/
import Derived.Test.YtaoecdpmcedlbaaDTimS
namespace Go.Proofs.Ytaoecdpmcedlbaa
open Go.RowKit
theorem quoT8 (d : Int) : (0 ≤ d → 0 ≤ quoT d 8 ∧ quoT d 8 ≤ d) ∧ (d ≤ 0 → d ≤ quoT d 8 ∧ quoT d 8 ≤ 0) := by
  unfold quoT; split <;> omega
theorem quoT4 (d : Int) : (0 ≤ d → 0 ≤ quoT d 4 ∧ quoT d 4 ≤ d) ∧ (d ≤ 0 → d ≤ quoT d 4 ∧ quoT d 4 ≤ 0) := by
  unfold quoT; split <;> omega
theorem step_law {m s k : Int} (h : tv m s = true) (h2 : inB k 0 10000 = true) : tv (stepM m s k) (stepS m s k) = true ∧ min m k ≤ stepM m s k ∧ stepM m s k ≤ max m k ∧ (k = m → stepS m s k ≤ s) := by
  obtain ⟨h1, h3, h4, h5⟩ := tv_bd h
  obtain ⟨h6, h7⟩ := inB_true.1 h2
  have hM : stepM m s k = m + quoT (k - m) 8 := by simp [stepM, h, h2]
  have hS : stepS m s k = s + quoT (max (k - m) (m - k) - s) 4 := by simp [stepS, h, h2]
  obtain ⟨a1, a2⟩ := quoT8 (k - m)
  obtain ⟨b1, b2⟩ := quoT4 (max (k - m) (m - k) - s)
  rw [hM, hS]
  have e1 : min m k ≤ m + quoT (k - m) 8 ∧ m + quoT (k - m) 8 ≤ max m k := by
    rcases Int.le_total m k with h | h
    · have := a1 (by omega); omega
    · have := a2 (by omega); omega
  have e2 : 0 ≤ s + quoT (max (k - m) (m - k) - s) 4 ∧ s + quoT (max (k - m) (m - k) - s) 4 ≤ 10000 := by
    rcases Int.le_total s (max (k - m) (m - k)) with h | h
    · have := b1 (by omega); omega
    · have := b2 (by omega); omega
  refine ⟨?_, e1.1, e1.2, fun e => ?_⟩
  · simp only [tv, Bool.and_eq_true, inB_true]; omega
  · have := b2 (by omega); omega
set_option maxHeartbeats 1000000 in
theorem walkTimingStep (a : Option Addr) (n cap : Nat) (z : List Int) (w : World) (w0 : IsRow .u8 w a n cap z) :
    Calls Try.prog 8 #[.slice a n cap] w fun e w' => e = .returned (.bool true) ∧ Below w.heap.size w w' := by
  by_cases hbig : 1048576 < n
  · have hb' : (1048576 : Int) < (n : Int) := by omega
    go_enter Try.func8, Try.ntmps8
    go_wp2
    go_ret
    exact ⟨rfl, Below.refl _ _⟩
  have hn' : (n : Int) ≤ 1048576 := by omega
  obtain ⟨hcl, hcap⟩ := w0.caps
  have HC := Lib.hid w0.code
  clear w0 hbig
  go_enter Try.func8, Try.ntmps8
  go_wp2_with fail
  refine (s_DrawTimingStep a n cap _ hcl hcap HC.out).mono ?_
  rintro e w1 ⟨m, s, k, rfl, m1, m2, s1, s2, k1, k2, b1⟩
  have z1 := b1.size
  have Q1 := Lib.hid (b1.alloc z1 (.cells #[.int .i64 m, .int .i64 s] 25))
  have HB := Lib.hid (Box.new w1 25 [.int .i64 m, .int .i64 s])
  clear b1
  go_wp2_with fail
  refine (c_TimingStep _ _ _ _).mono ?_; rintro e w2 ⟨rfl, b2⟩
  have z2 := b2.size
  simp only [World.size_alloc] at z2
  have Q2 := Lib.hid ((Below.step Q1.out b2 (by simp only [World.size_alloc]; omega)).alloc (by omega) (.cells #[.int .i64 (stepM m s k), .int .i64 (stepS m s k)] 25))
  have HB2 := Lib.hid ((HB.out.keep b2).alloc (.cells #[.int .i64 (stepM m s k), .int .i64 (stepS m s k)] 25))
  have HX := Lib.hid (Box.new w2 25 [.int .i64 (stepM m s k), .int .i64 (stepS m s k)])
  have x0 := HB2.out.cell 0
  have x1 := HB2.out.cell 1
  have x2 := HX.out.cell 0
  have x3 := HX.out.cell 1
  simp only [List.getElem?_cons_zero, List.getElem?_cons_succ] at x0 x1 x2 x3
  clear b2
  have HL := Lib.hid (fun h h2 => step_law (m := m) (s := s) (k := k) h h2)
  have HC2 := Lib.hid (fun W => s_TimingStep m s k W)
  generalize hM : stepM m s k = M at *
  generalize hS : stepS m s k = S at *
  have hMS := Lib.hid (And.intro hM hS)
  clear hM hS
  go_wp2_with fail
  have q2 : Below w.heap.size w (w2.alloc (.cells #[.int .i64 M, .int .i64 S] 25)).drew := ⟨Q2.out.os, Q2.out.tape, Q2.out.output, Q2.out.size, Q2.out.block⟩
  go_region_held3 (fun w' => w'.cell? ⟨w1.heap.size, 0, none⟩ = some (.int .i64 m) ∧ w'.cell? ⟨w1.heap.size, 1, none⟩ = some (.int .i64 s) ∧ w'.cell? ⟨w2.heap.size, 0, none⟩ = some (.int .i64 M) ∧ w'.cell? ⟨w2.heap.size, 1, none⟩ = some (.int .i64 S) ∧ Below w.heap.size w w') (first | assumption | go_keep | (refine ⟨?_, ?_, ?_, ?_, ?_⟩ <;> first | assumption | go_keep | go_grown))
    (first
      | (go_at_call_of 19 (Value.int .i64 k); refine (HC2.out _).mono ?_; rintro e w' ⟨rfl, hb⟩
         have kk0 := hb.cell (p := ⟨w1.heap.size, 0, none⟩) (World.block_lt_of_cell? _ _ (by assumption))
         have kk1 := hb.cell (p := ⟨w1.heap.size, 1, none⟩) (World.block_lt_of_cell? _ _ (by assumption))
         have kk2 := hb.cell (p := ⟨w2.heap.size, 0, none⟩) (World.block_lt_of_cell? _ _ (by assumption))
         have kk3 := hb.cell (p := ⟨w2.heap.size, 1, none⟩) (World.block_lt_of_cell? _ _ (by assumption))
         have kk4 : Below w.heap.size w w' := Below.step (by assumption) hb (by have := Below.size (by assumption : Below w.heap.size w _); omega)
         clear hb))
  clear kk0 kk1 kk2 kk3 kk4
  rename_i held
  obtain ⟨y0, y1, y2, y3, q3⟩ := held
  have Q3 := Lib.hid q3
  have l1 := World.block_lt_of_cell? _ _ y0
  have l2 := World.block_lt_of_cell? _ _ y2
  simp only at l1 l2
  clear q2 q3 HC2 Q1 Q2 HB HB2 HX x0 x1 x2 x3
  have bad : tv m s = false ∨ inB k 0 10000 = false → M = 0 ∧ S = 0 := fun h => by
    have ⟨hM, hS⟩ := hMS.out
    have h0 : (tv m s && inB k 0 10000) = false := by rcases h with h | h <;> simp [h]
    rw [← hM, ← hS]; simp [stepM, stepS, h0]
  have HBad := Lib.hid bad
  clear bad hMS
  cases htv : tv m s
  · obtain ⟨rfl, rfl⟩ := HBad.out (.inl htv)
    go_wp2_with fail
    refine (c_TimingValid _ _ _).mono ?_; rintro e w4 ⟨rfl, b4⟩
    have Q4 := Lib.hid (Below.step Q3.out b4 (by omega))
    obtain ⟨hc4, _, z4⟩ := bcell b4
    have v0 := (hc4 _ 0 l1).trans y0
    have v2 := (hc4 _ 0 l2).trans y2
    have v3 := (hc4 _ 1 l2).trans y3
    clear hc4 b4 y0 y1 y2 y3
    rw [htv]
    go_wp2_with fail
    refine (c_alive _).mono ?_; rintro e w5 ⟨rfl, b5⟩
    have Q5 := Below.step Q4.out b5 (by omega)
    go_wp2_with fail
    go_ret
    exact ⟨rfl, Q5⟩
  · cases h2 : inB k 0 10000
    · obtain ⟨rfl, rfl⟩ := HBad.out (.inr h2)
      rcases inB_false.1 h2 with h2 | h2
      all_goals
        go_wp2_with fail
        refine (c_TimingValid _ _ _).mono ?_; rintro e w4 ⟨rfl, b4⟩
        have Q4 := Lib.hid (Below.step Q3.out b4 (by omega))
        obtain ⟨hc4, _, z4⟩ := bcell b4
        have v0 := (hc4 _ 0 l1).trans y0
        have v2 := (hc4 _ 0 l2).trans y2
        have v3 := (hc4 _ 1 l2).trans y3
        clear hc4 b4 y0 y1 y2 y3
        rw [htv]
        go_wp2_with fail
        refine (c_alive _).mono ?_; rintro e w5 ⟨rfl, b5⟩
        have Q5 := Below.step Q4.out b5 (by omega)
        go_wp2_with fail
        go_ret
        exact ⟨rfl, Q5⟩
    · obtain ⟨t1, t2, t3, t4⟩ := HL.out htv h2
      obtain ⟨h3, h4⟩ := inB_true.1 h2
      have HT1 := Lib.hid t1
      have HT4 := Lib.hid t4
      clear t1 t4 HBad HL h2
      have t5 : m ≤ M ∨ k ≤ M := by omega
      have t6 : M ≤ m ∨ M ≤ k := by omega
      have HT5 := Lib.hid (And.intro t5 t6)
      clear t5 t6
      go_wp2_with fail
      refine (c_TimingValid _ _ _).mono ?_; rintro e w4 ⟨rfl, b4⟩
      have Q4 := Lib.hid (Below.step Q3.out b4 (by omega))
      obtain ⟨hc4, _, z4⟩ := bcell b4
      have v0 := (hc4 _ 0 l1).trans y0
      have v1 := (hc4 _ 1 l1).trans y1
      have v2 := (hc4 _ 0 l2).trans y2
      have v3 := (hc4 _ 1 l2).trans y3
      clear hc4 b4 y0 y1 y2 y3
      rw [htv]
      go_wp2_with fail
      refine (c_TimingValid _ _ _).mono ?_; rintro e w5 ⟨rfl, b5⟩
      have Q5 := Lib.hid (Below.step Q4.out b5 (by omega))
      obtain ⟨hc5, _, z5⟩ := bcell b5
      have y0 := (hc5 _ 0 (by omega)).trans v0
      have y1 := (hc5 _ 1 (by omega)).trans v1
      have y2 := (hc5 _ 0 (by omega)).trans v2
      have y3 := (hc5 _ 1 (by omega)).trans v3
      clear hc5 b5 v0 v1 v2 v3
      rw [HT1.out]
      by_cases hk : k = m
      · have hS2 := HT4.out hk
        subst hk
        have e1 : M = k := by omega
        subst e1
        go_wp2_with fail
        go_ret
        exact ⟨rfl, Q5.out⟩
      · by_cases hlt : k < m
        · have e1 : k ≤ M := by omega
          have e2 : M ≤ m := by omega
          go_wp2_with fail
          all_goals
            go_ret
            exact ⟨rfl, Q5.out⟩
        · have e1 : m ≤ M := by omega
          have e2 : M ≤ k := by omega
          have e3 : m < k := by omega
          go_wp2_with fail
          all_goals
            go_ret
            exact ⟨rfl, Q5.out⟩
end Go.Proofs.Ytaoecdpmcedlbaa
