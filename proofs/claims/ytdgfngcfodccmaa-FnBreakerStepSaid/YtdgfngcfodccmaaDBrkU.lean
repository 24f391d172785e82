/- The walk of the law FnBreakerStep: true for all bytes. No condition. -/
import Derived.Test.YtdgfngcfodccmaaDBrkW
import Derived.Test.YtdgfngcfodccmaaBrkS
import Derived.Deep.RegionHeld3
namespace Go.Proofs.Ytdgfngcfodccmaa
open Go.RowKit
theorem step_none {f u now most pause : Int} {good : Bool} (h : allowsB f u now = false ∨ most < 1 ∨ pause < 1) :
    (stepF f u now good most pause = 0 ∧ stepU f u now good most pause = 0) ∨ (stepF f u now good most pause = f ∧ stepU f u now good most pause = u) := by
  cases hs : stepOk f u now most pause
  · exact .inl (step_no hs)
  · by_cases hu : now < u
    · exact .inr ⟨by simp [stepF, hs, hu], by simp [stepU, hs, hu]⟩
    · exfalso
      simp only [stepOk, Bool.and_eq_true, inB_true] at hs
      obtain ⟨⟨⟨h1, h2⟩, h3⟩, h4⟩ := hs
      rcases h with h | h | h
      · have : allowsB f u now = true := by
          simp only [allowsB, Bool.and_eq_true, inB_true, decide_eq_true_eq]
          exact ⟨⟨h1, h2⟩, by omega⟩
        rw [this] at h; cases h
      · omega
      · omega
theorem step_some {f u now most pause : Int} {good : Bool} (h : allowsB f u now = true) (h1 : 1 ≤ most) (h2 : most ≤ 100) (h3 : 1 ≤ pause) (h4 : pause ≤ 100000) :
    (good = true → stepF f u now good most pause = 0 ∧ stepU f u now good most pause = 0) ∧
    (good = false → f ≤ stepF f u now good most pause ∧ bv (stepF f u now good most pause) (stepU f u now good most pause) = true ∧ (stepF f u now good most pause < most ∨ (most ≤ stepF f u now good most pause ∧ allowsB (stepF f u now good most pause) (stepU f u now good most pause) now = false ∧ stepU f u now good most pause = now + pause))) := by
  simp only [allowsB, Bool.and_eq_true, inB_true, decide_eq_true_eq] at h
  obtain ⟨⟨h5, h6⟩, h7⟩ := h
  have hs : stepOk f u now most pause = true := by
    simp only [stepOk, Bool.and_eq_true, inB_true]; exact ⟨⟨⟨h5, h6⟩, h1, h2⟩, h3, h4⟩
  obtain ⟨b1, b2, b3, b4⟩ := bv_bd h5
  refine ⟨fun hg => ?_, fun hg => ?_⟩
  · simp only [stepF, stepU, hs, hg, if_true, if_neg (show ¬ now < u by omega), and_self]
  · simp only [stepF, stepU, hs, hg, if_true, if_neg (show ¬ now < u by omega), Bool.false_eq_true, if_false]
    by_cases hm : most ≤ min (f + 1) 100
    · rw [if_pos hm]
      refine ⟨by omega, by simp only [bv, Bool.and_eq_true, inB_true]; omega, .inr ⟨by omega, ?_, rfl⟩⟩
      simp only [allowsB, show decide (now + pause ≤ now) = false from decide_eq_false (by omega), Bool.and_false]
    · rw [if_neg hm]
      refine ⟨by omega, by simp only [bv, Bool.and_eq_true, inB_true]; omega, .inl (by omega)⟩
set_option maxHeartbeats 2000000 in
set_option maxRecDepth 2000 in
theorem walkBreakerStep (a : Option Addr) (n cap : Nat) (z : List Int) (w : World) (w0 : IsRow .u8 w a n cap z) :
    Calls Try.prog 3 #[.slice a n cap] w fun e w' => e = .returned (.bool true) ∧ Below w.heap.size w w' := by
  by_cases hbig : 1048576 < n
  · have hb' : (1048576 : Int) < (n : Int) := by omega
    go_enter Try.func3, Try.ntmps3
    go_wp2
    go_ret
    exact ⟨rfl, Below.refl _ _⟩
  have hn' : (n : Int) ≤ 1048576 := by omega
  obtain ⟨hcl, hcap⟩ := w0.caps
  have HC := Lib.hid w0.code
  clear w0 hbig
  go_enter Try.func3, Try.ntmps3
  go_wp2_with fail
  refine (s_DrawBreakerStep a n cap _ hcl hcap HC.out).mono ?_
  rintro e w1 ⟨m, s, k, good, most, pause, rfl, m1, m2, s1, s2, k1, k2, o1, o2, u1, u2, b1⟩
  have z1 := b1.size
  have Q1 := Lib.hid (b1.alloc z1 (.cells #[.int .i64 m, .int .i64 s] 24))
  have HB := Lib.hid (Box.new w1 24 [.int .i64 m, .int .i64 s])
  clear b1
  have HC1 := Lib.hid (fun W => c_BreakerStep m s k most pause good W)
  have HC2 := Lib.hid (fun W => s_BreakerStep m s k most pause good W)
  have HL1 := Lib.hid (fun h => step_none (f := m) (u := s) (now := k) (most := most) (pause := pause) (good := good) h)
  have HL2 := Lib.hid (fun h h1 h3 => step_some (f := m) (u := s) (now := k) (most := most) (pause := pause) (good := good) h h1 o2 h3 u2)
  generalize hM : stepF m s k good most pause = M at *
  generalize hS : stepU m s k good most pause = S at *
  clear hM hS
  go_wp2_with fail
  refine (HC1.out _).mono ?_; rintro e w2 ⟨rfl, b2⟩
  have z2 := b2.size
  simp only [World.size_alloc] at z2
  have Q2 := Lib.hid ((Below.step Q1.out b2 (by simp only [World.size_alloc]; omega)).alloc (by omega) (.cells #[.int .i64 M, .int .i64 S] 24))
  have HB2 := Lib.hid ((HB.out.keep b2).alloc (.cells #[.int .i64 M, .int .i64 S] 24))
  have HX := Lib.hid (Box.new w2 24 [.int .i64 M, .int .i64 S])
  have x0 := HB2.out.cell 0
  have x1 := HB2.out.cell 1
  have x2 := HX.out.cell 0
  have x3 := HX.out.cell 1
  simp only [List.getElem?_cons_zero, List.getElem?_cons_succ] at x0 x1 x2 x3
  clear b2
  go_wp2_with fail
  have q2 : Below w.heap.size w (w2.alloc (.cells #[.int .i64 M, .int .i64 S] 24)).drew := ⟨Q2.out.os, Q2.out.tape, Q2.out.output, Q2.out.size, Q2.out.block⟩
  go_region_held3 (fun w' => w'.cell? ⟨w1.heap.size, 0, none⟩ = some (.int .i64 m) ∧ w'.cell? ⟨w1.heap.size, 1, none⟩ = some (.int .i64 s) ∧ w'.cell? ⟨w2.heap.size, 0, none⟩ = some (.int .i64 M) ∧ w'.cell? ⟨w2.heap.size, 1, none⟩ = some (.int .i64 S) ∧ Below w.heap.size w w') (first | assumption | go_keep | (refine ⟨?_, ?_, ?_, ?_, ?_⟩ <;> first | assumption | go_keep | go_grown))
    (first
      | (go_at_call 11; refine (HC2.out _).mono ?_; rintro e w' ⟨rfl, hb⟩
         have kk0 := hb.cell (p := ⟨w1.heap.size, 0, none⟩) (World.block_lt_of_cell? _ _ (by assumption))
         have kk1 := hb.cell (p := ⟨w1.heap.size, 1, none⟩) (World.block_lt_of_cell? _ _ (by assumption))
         have kk2 := hb.cell (p := ⟨w2.heap.size, 0, none⟩) (World.block_lt_of_cell? _ _ (by assumption))
         have kk3 := hb.cell (p := ⟨w2.heap.size, 1, none⟩) (World.block_lt_of_cell? _ _ (by assumption))
         have kk4 : Below w.heap.size w w' := Below.step (by assumption) hb (by have := Below.size (by assumption : Below w.heap.size w _); omega)
         clear hb))
  clear kk0 kk1 kk2 kk3 kk4
  rename_i held
  obtain ⟨y0, y1, y2, y3, q3⟩ := held
  have Q3 := Lib.hid q3
  have l1 := World.block_lt_of_cell? _ _ y0
  have l2 := World.block_lt_of_cell? _ _ y2
  simp only at l1 l2
  clear q2 q3 HC2 HC1 Q1 Q2 HB HB2 HX x0 x1 x2 x3
  have hsplit : (M = 0 ∧ S = 0) ∨ (M = m ∧ S = s) → (M = m ∧ S = s) ∨ (M = 0 ∧ S = 0 ∧ m ≠ 0) ∨ (M = 0 ∧ S = 0 ∧ m = 0 ∧ s ≠ 0) := by omega
  have HSp := Lib.hid hsplit
  clear hsplit
  cases hal : allowsB m s k
  · rcases HSp.out (HL1.out (.inl hal)) with ⟨rfl, rfl⟩ | ⟨rfl, rfl, hm⟩ | ⟨rfl, rfl, rfl, hm⟩
    · go_wp2_with fail
      refine (c_BreakerAllows _ _ _ _).mono ?_; rintro e w4 ⟨rfl, b4⟩
      have Q4 := Lib.hid (Below.step Q3.out b4 (by omega))
      obtain ⟨hc4, _, z4⟩ := bcell b4
      have v0 := (hc4 _ 0 l1).trans y0
      have v1 := (hc4 _ 1 l1).trans y1
      have v2 := (hc4 _ 0 l2).trans y2
      have v3 := (hc4 _ 1 l2).trans y3
      clear hc4 b4 y0 y1 y2 y3
      rw [hal]
      go_wp2_with fail
      refine (c_alive _).mono ?_; rintro e w5 ⟨rfl, b5⟩
      have Q5 := Below.step Q4.out b5 (by omega)
      go_wp2_with fail
      go_ret
      exact ⟨rfl, Q5⟩
    · have hm' : ¬ (0 : Int) = m := fun h => hm h.symm
      go_wp2_with fail
      refine (c_BreakerAllows _ _ _ _).mono ?_; rintro e w4 ⟨rfl, b4⟩
      have Q4 := Lib.hid (Below.step Q3.out b4 (by omega))
      obtain ⟨hc4, _, z4⟩ := bcell b4
      have v0 := (hc4 _ 0 l1).trans y0
      have v1 := (hc4 _ 1 l1).trans y1
      have v2 := (hc4 _ 0 l2).trans y2
      have v3 := (hc4 _ 1 l2).trans y3
      clear hc4 b4 y0 y1 y2 y3
      rw [hal]
      go_wp2_with fail
      refine (c_alive _).mono ?_; rintro e w5 ⟨rfl, b5⟩
      have Q5 := Below.step Q4.out b5 (by omega)
      go_wp2_with fail
      go_ret
      exact ⟨rfl, Q5⟩
    · have hm' : ¬ (0 : Int) = s := fun h => hm h.symm
      go_wp2_with fail
      refine (c_BreakerAllows _ _ _ _).mono ?_; rintro e w4 ⟨rfl, b4⟩
      have Q4 := Lib.hid (Below.step Q3.out b4 (by omega))
      obtain ⟨hc4, _, z4⟩ := bcell b4
      have v0 := (hc4 _ 0 l1).trans y0
      have v1 := (hc4 _ 1 l1).trans y1
      have v2 := (hc4 _ 0 l2).trans y2
      have v3 := (hc4 _ 1 l2).trans y3
      clear hc4 b4 y0 y1 y2 y3
      rw [hal]
      go_wp2_with fail
      refine (c_alive _).mono ?_; rintro e w5 ⟨rfl, b5⟩
      have Q5 := Below.step Q4.out b5 (by omega)
      go_wp2_with fail
      go_ret
      exact ⟨rfl, Q5⟩
  · by_cases hmost : most < 1
    · rcases HSp.out (HL1.out (.inr (.inl hmost))) with ⟨rfl, rfl⟩ | ⟨rfl, rfl, hm⟩ | ⟨rfl, rfl, rfl, hm⟩
      · go_wp2_with fail
        refine (c_BreakerAllows _ _ _ _).mono ?_; rintro e w4 ⟨rfl, b4⟩
        have Q4 := Lib.hid (Below.step Q3.out b4 (by omega))
        obtain ⟨hc4, _, z4⟩ := bcell b4
        have v0 := (hc4 _ 0 l1).trans y0
        have v1 := (hc4 _ 1 l1).trans y1
        have v2 := (hc4 _ 0 l2).trans y2
        have v3 := (hc4 _ 1 l2).trans y3
        clear hc4 b4 y0 y1 y2 y3
        rw [hal]
        go_wp2_with fail
        refine (c_alive _).mono ?_; rintro e w5 ⟨rfl, b5⟩
        have Q5 := Below.step Q4.out b5 (by omega)
        go_wp2_with fail
        go_ret
        exact ⟨rfl, Q5⟩
      · have hm' : ¬ (0 : Int) = m := fun h => hm h.symm
        go_wp2_with fail
        refine (c_BreakerAllows _ _ _ _).mono ?_; rintro e w4 ⟨rfl, b4⟩
        have Q4 := Lib.hid (Below.step Q3.out b4 (by omega))
        obtain ⟨hc4, _, z4⟩ := bcell b4
        have v0 := (hc4 _ 0 l1).trans y0
        have v1 := (hc4 _ 1 l1).trans y1
        have v2 := (hc4 _ 0 l2).trans y2
        have v3 := (hc4 _ 1 l2).trans y3
        clear hc4 b4 y0 y1 y2 y3
        rw [hal]
        go_wp2_with fail
        refine (c_alive _).mono ?_; rintro e w5 ⟨rfl, b5⟩
        have Q5 := Below.step Q4.out b5 (by omega)
        go_wp2_with fail
        go_ret
        exact ⟨rfl, Q5⟩
      · have hm' : ¬ (0 : Int) = s := fun h => hm h.symm
        go_wp2_with fail
        refine (c_BreakerAllows _ _ _ _).mono ?_; rintro e w4 ⟨rfl, b4⟩
        have Q4 := Lib.hid (Below.step Q3.out b4 (by omega))
        obtain ⟨hc4, _, z4⟩ := bcell b4
        have v0 := (hc4 _ 0 l1).trans y0
        have v1 := (hc4 _ 1 l1).trans y1
        have v2 := (hc4 _ 0 l2).trans y2
        have v3 := (hc4 _ 1 l2).trans y3
        clear hc4 b4 y0 y1 y2 y3
        rw [hal]
        go_wp2_with fail
        refine (c_alive _).mono ?_; rintro e w5 ⟨rfl, b5⟩
        have Q5 := Below.step Q4.out b5 (by omega)
        go_wp2_with fail
        go_ret
        exact ⟨rfl, Q5⟩
    · have hmost : 1 ≤ most := by omega
      by_cases hpause : pause < 1
      · rcases HSp.out (HL1.out (.inr (.inr hpause))) with ⟨rfl, rfl⟩ | ⟨rfl, rfl, hm⟩ | ⟨rfl, rfl, rfl, hm⟩
        · go_wp2_with fail
          refine (c_BreakerAllows _ _ _ _).mono ?_; rintro e w4 ⟨rfl, b4⟩
          have Q4 := Lib.hid (Below.step Q3.out b4 (by omega))
          obtain ⟨hc4, _, z4⟩ := bcell b4
          have v0 := (hc4 _ 0 l1).trans y0
          have v1 := (hc4 _ 1 l1).trans y1
          have v2 := (hc4 _ 0 l2).trans y2
          have v3 := (hc4 _ 1 l2).trans y3
          clear hc4 b4 y0 y1 y2 y3
          rw [hal]
          go_wp2_with fail
          refine (c_alive _).mono ?_; rintro e w5 ⟨rfl, b5⟩
          have Q5 := Below.step Q4.out b5 (by omega)
          go_wp2_with fail
          go_ret
          exact ⟨rfl, Q5⟩
        · have hm' : ¬ (0 : Int) = m := fun h => hm h.symm
          go_wp2_with fail
          refine (c_BreakerAllows _ _ _ _).mono ?_; rintro e w4 ⟨rfl, b4⟩
          have Q4 := Lib.hid (Below.step Q3.out b4 (by omega))
          obtain ⟨hc4, _, z4⟩ := bcell b4
          have v0 := (hc4 _ 0 l1).trans y0
          have v1 := (hc4 _ 1 l1).trans y1
          have v2 := (hc4 _ 0 l2).trans y2
          have v3 := (hc4 _ 1 l2).trans y3
          clear hc4 b4 y0 y1 y2 y3
          rw [hal]
          go_wp2_with fail
          refine (c_alive _).mono ?_; rintro e w5 ⟨rfl, b5⟩
          have Q5 := Below.step Q4.out b5 (by omega)
          go_wp2_with fail
          go_ret
          exact ⟨rfl, Q5⟩
        · have hm' : ¬ (0 : Int) = s := fun h => hm h.symm
          go_wp2_with fail
          refine (c_BreakerAllows _ _ _ _).mono ?_; rintro e w4 ⟨rfl, b4⟩
          have Q4 := Lib.hid (Below.step Q3.out b4 (by omega))
          obtain ⟨hc4, _, z4⟩ := bcell b4
          have v0 := (hc4 _ 0 l1).trans y0
          have v1 := (hc4 _ 1 l1).trans y1
          have v2 := (hc4 _ 0 l2).trans y2
          have v3 := (hc4 _ 1 l2).trans y3
          clear hc4 b4 y0 y1 y2 y3
          rw [hal]
          go_wp2_with fail
          refine (c_alive _).mono ?_; rintro e w5 ⟨rfl, b5⟩
          have Q5 := Below.step Q4.out b5 (by omega)
          go_wp2_with fail
          go_ret
          exact ⟨rfl, Q5⟩
      · have hpause : 1 ≤ pause := by omega
        obtain ⟨g1, g2⟩ := HL2.out hal hmost hpause
        clear HL1 HL2 HSp
        cases hgood : good
        · obtain ⟨f1, f2, f3⟩ := g2 hgood
          clear g1 g2
          have hk := inB_true.1 (allows_bv hal).2
          obtain ⟨hk1, hk2⟩ := hk
          rcases f3 with f3 | ⟨f3, f4, rfl⟩
          · go_wp2_with fail
            refine (c_BreakerAllows _ _ _ _).mono ?_; rintro e w4 ⟨rfl, b4⟩
            have Q4 := Lib.hid (Below.step Q3.out b4 (by omega))
            obtain ⟨hc4, _, z4⟩ := bcell b4
            have v0 := (hc4 _ 0 l1).trans y0
            have v2 := (hc4 _ 0 l2).trans y2
            have v3 := (hc4 _ 1 l2).trans y3
            clear hc4 b4 y0 y1 y2 y3
            rw [hal]
            go_wp2_with fail
            refine (c_BreakerValid _ _ _).mono ?_; rintro e w5 ⟨rfl, b5⟩
            have Q5 := Lib.hid (Below.step Q4.out b5 (by omega))
            obtain ⟨hc5, _, z5⟩ := bcell b5
            have y0 := (hc5 _ 0 (by omega)).trans v0
            have y2 := (hc5 _ 0 (by omega)).trans v2
            clear hc5 b5 v0 v2 v3
            rw [f2]
            go_wp2_with fail
            go_ret
            exact ⟨rfl, Q5.out⟩
          · go_wp2_with fail
            refine (c_BreakerAllows _ _ _ _).mono ?_; rintro e w4 ⟨rfl, b4⟩
            have Q4 := Lib.hid (Below.step Q3.out b4 (by omega))
            obtain ⟨hc4, _, z4⟩ := bcell b4
            have v0 := (hc4 _ 0 l1).trans y0
            have v2 := (hc4 _ 0 l2).trans y2
            have v3 := (hc4 _ 1 l2).trans y3
            clear hc4 b4 y0 y1 y2 y3
            rw [hal]
            go_wp2_with fail
            refine (c_BreakerValid _ _ _).mono ?_; rintro e w5 ⟨rfl, b5⟩
            have Q5 := Lib.hid (Below.step Q4.out b5 (by omega))
            obtain ⟨hc5, _, z5⟩ := bcell b5
            have y0 := (hc5 _ 0 (by omega)).trans v0
            have y2 := (hc5 _ 0 (by omega)).trans v2
            have y3 := (hc5 _ 1 (by omega)).trans v3
            clear hc5 b5 v0 v2 v3
            rw [f2]
            go_wp2_with fail
            refine (c_BreakerAllows _ _ _ _).mono ?_; rintro e w6 ⟨rfl, b6⟩
            have Q6 := Lib.hid (Below.step Q5.out b6 (by omega))
            obtain ⟨hc6, _, z6⟩ := bcell b6
            have v3 := (hc6 _ 1 (by omega)).trans y3
            clear hc6 b6 y0 y2 y3
            rw [f4]
            go_wp2_with fail
            go_ret
            exact ⟨rfl, Q6.out⟩
        · obtain ⟨rfl, rfl⟩ := g1 hgood
          clear g2
          go_wp2_with fail
          refine (c_BreakerAllows _ _ _ _).mono ?_; rintro e w4 ⟨rfl, b4⟩
          have Q4 := Lib.hid (Below.step Q3.out b4 (by omega))
          obtain ⟨hc4, _, z4⟩ := bcell b4
          have v2 := (hc4 _ 0 l2).trans y2
          have v3 := (hc4 _ 1 l2).trans y3
          clear hc4 b4 y0 y1 y2 y3
          rw [hal]
          go_wp2_with fail
          go_ret
          exact ⟨rfl, Q4.out⟩
end Go.Proofs.Ytdgfngcfodccmaa
