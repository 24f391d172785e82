/- Contracts of BreakerStep, of the program and of the reference. No condition. -/
import Derived.Test.YtdgfngcfodccmaaBrk
namespace Go.Proofs.Ytdgfngcfodccmaa
open Go.RowKit
theorem keepF {w : World} {p : Addr} {v : Value} (h : w.cell? p = some v) (hf : w.frozen? p = false) (o : Obj) : (w.alloc o).frozen? p = false :=
  (((Below.refl w.heap.size w).alloc (Nat.le_refl _) o).frozen (World.block_lt_of_cell? w p h)).trans hf
theorem step_no {f u now most pause : Int} {good : Bool} (h : stepOk f u now most pause = false) : stepF f u now good most pause = 0 ∧ stepU f u now good most pause = 0 := by
  simp [stepF, stepU, h]
set_option maxHeartbeats 1600000 in
theorem c_BreakerStep (f u now most pause : Int) (good : Bool) (w : World) :
    Calls Try.prog 10 #[.agg #[.int .i64 f, .int .i64 u], .int .i64 now, .bool good, .int .i64 most, .int .i64 pause] w
      fun e w' => e = .returned (.agg #[.int .i64 (stepF f u now good most pause), .int .i64 (stepU f u now good most pause)]) ∧ Below w.heap.size w w' := by
  have g0 : Below w.heap.size w ((w.alloc (.cells #[.int .i64 f, .int .i64 u] 24)).alloc (.cells #[.int .i64 0, .int .i64 0] 24)) := ((Below.refl _ _).alloc (Nat.le_refl _) _).alloc (by simp) _
  cases hok : stepOk f u now most pause
  · obtain ⟨e1, e2⟩ := step_no (good := good) hok
    have H1 := Lib.hid e1
    have H2 := Lib.hid e2
    clear e1 e2
    have hor : bv f u = false ∨ (bv f u = true ∧ inB now 0 100000 = false) ∨ (bv f u = true ∧ inB now 0 100000 = true ∧ inB most 1 100 = false) ∨ (bv f u = true ∧ inB now 0 100000 = true ∧ inB most 1 100 = true ∧ inB pause 1 100000 = false) := by
      revert hok
      unfold stepOk
      cases bv f u <;> cases inB now 0 100000 <;> cases inB most 1 100 <;> cases inB pause 1 100000 <;> simp
    clear hok
    rcases hor with h1 | ⟨h1, h2⟩ | ⟨h1, h2, h3⟩ | ⟨h1, h2, h3, h4⟩
    all_goals
      go_enter Try.func10, Try.ntmps10
      go_wp2_with fail
      refine (c_BreakerValid _ _ _).mono ?_; rintro e w1 ⟨rfl, hb1⟩
      obtain ⟨hc1, hf1, hz1⟩ := bcell hb1
      simp only [World.size_alloc] at hz1
      go_wp2_with (first | (go_at_call 36; refine (c_isTime _ _).mono ?_; rintro e w' ⟨rfl, rfl⟩) | (go_at_call 37; refine (c_in _ _ _ _).mono ?_; rintro e w' ⟨rfl, rfl⟩))
      rw [H1.out, H2.out]
      refine bodyPost_ret (v := .agg #[.int .i64 0, .int .i64 0]) (by simp [results, Try.results10, go_sem, hc1]) rfl ?_
      have hq := g0.trans (hb1.mono (by simp; omega))
      exact ⟨rfl, by go_grown⟩
  · have hand : bv f u = true ∧ inB now 0 100000 = true ∧ inB most 1 100 = true ∧ inB pause 1 100000 = true := by
      simp only [stepOk, Bool.and_eq_true] at hok; exact ⟨hok.1.1.1, hok.1.1.2, hok.1.2, hok.2⟩
    obtain ⟨h1, h2, h3, h4⟩ := hand
    obtain ⟨b1, b2, b3, b4⟩ := bv_bd h1
    obtain ⟨b5, b6⟩ := inB_true.1 h2
    obtain ⟨b7, b8⟩ := inB_true.1 h3
    obtain ⟨b9, b10⟩ := inB_true.1 h4
    have HF := Lib.hid (show stepF f u now good most pause = if now < u then f else if good then 0 else min (f + 1) 100 by simp [stepF, hok])
    have HU := Lib.hid (show stepU f u now good most pause = if now < u then u else if good then 0 else if most ≤ min (f + 1) 100 then now + pause else u by simp [stepU, hok])
    have HA := Lib.hid (show allowsB f u now = decide (u ≤ now) by simp [allowsB, h1, h2])
    clear hok
    by_cases hnow : now < u
    · have ha : allowsB f u now = false := by rw [HA.out]; simp; omega
      go_enter Try.func10, Try.ntmps10
      go_wp2_with fail
      refine (c_BreakerValid _ _ _).mono ?_; rintro e w1 ⟨rfl, hb1⟩
      obtain ⟨hc1, hf1, hz1⟩ := bcell hb1
      simp only [World.size_alloc] at hz1
      go_wp2_with (first | (go_at_call 36; refine (c_isTime _ _).mono ?_; rintro e w' ⟨rfl, rfl⟩) | (go_at_call 37; refine (c_in _ _ _ _).mono ?_; rintro e w' ⟨rfl, rfl⟩))
      refine (c_BreakerAllows _ _ _ _).mono ?_; rintro e w2 ⟨rfl, hb2⟩
      have hq := (g0.trans (hb1.mono (by simp; omega))).trans (hb2.mono (by omega))
      have Bx : Box w2 w.heap.size 24 [.int .i64 f, .int .i64 u] := (((Box.new w 24 [.int .i64 f, .int .i64 u]).alloc _).keep hb1).keep hb2
      have By : Box w2 (w.heap.size + 1) 24 [.int .i64 0, .int .i64 0] := by
        have q := ((Box.new (w.alloc (.cells #[.int .i64 f, .int .i64 u] 24)) 24 [.int .i64 0, .int .i64 0]).keep hb1).keep hb2
        rw [World.size_alloc] at q
        exact q
      have x0 := Bx.cell 0
      have x1 := Bx.cell 1
      have x2 := Bx.frozen 0
      have x3 := Bx.frozen 1
      have y0 := By.cell 0
      have y1 := By.cell 1
      have y2 := By.frozen 0
      have y3 := By.frozen 1
      simp only [List.getElem?_cons_zero, List.getElem?_cons_succ] at x0 x1 y0 y1
      have HQ := Lib.hid hq
      clear hc1 hf1 hb1 hb2 hq Bx By
      go_wp2_with fail
      rw [HF.out, HU.out, if_pos hnow, if_pos hnow]
      refine bodyPost_ret (v := .agg #[.int .i64 f, .int .i64 u]) (by simp [results, Try.results10, go_sem, y0, y1]) rfl ?_
      have hq := HQ.out
      exact ⟨rfl, by go_grown⟩
    · have ha : allowsB f u now = true := by rw [HA.out]; simp; omega
      cases good
      · by_cases hf : f < 100
        · have hm : min (f + 1) 100 = f + 1 := by omega
          rw [hm] at HF HU
          clear hm
          by_cases hmost : most ≤ f + 1
          · go_enter Try.func10, Try.ntmps10
            go_wp2_with fail
            refine (c_BreakerValid _ _ _).mono ?_; rintro e w1 ⟨rfl, hb1⟩
            obtain ⟨hc1, hf1, hz1⟩ := bcell hb1
            simp only [World.size_alloc] at hz1
            go_wp2_with (first | (go_at_call 36; refine (c_isTime _ _).mono ?_; rintro e w' ⟨rfl, rfl⟩) | (go_at_call 37; refine (c_in _ _ _ _).mono ?_; rintro e w' ⟨rfl, rfl⟩))
            refine (c_BreakerAllows _ _ _ _).mono ?_; rintro e w2 ⟨rfl, hb2⟩
            have hq := (g0.trans (hb1.mono (by simp; omega))).trans (hb2.mono (by omega))
            have Bx : Box w2 w.heap.size 24 [.int .i64 f, .int .i64 u] := (((Box.new w 24 [.int .i64 f, .int .i64 u]).alloc _).keep hb1).keep hb2
            have By : Box w2 (w.heap.size + 1) 24 [.int .i64 0, .int .i64 0] := by
              have q := ((Box.new (w.alloc (.cells #[.int .i64 f, .int .i64 u] 24)) 24 [.int .i64 0, .int .i64 0]).keep hb1).keep hb2
              rw [World.size_alloc] at q
              exact q
            have x0 := Bx.cell 0
            have x1 := Bx.cell 1
            have x2 := Bx.frozen 0
            have x3 := Bx.frozen 1
            have y0 := By.cell 0
            have y1 := By.cell 1
            have y2 := By.frozen 0
            have y3 := By.frozen 1
            simp only [List.getElem?_cons_zero, List.getElem?_cons_succ] at x0 x1 y0 y1
            have HQ := Lib.hid hq
            clear hc1 hf1 hb1 hb2 hq Bx By
            go_wp2_with fail
            have hnow' : ¬ now < u := by omega
            rw [HF.out, HU.out, if_neg hnow', if_neg hnow']
            refine bodyPost_ret (v := .agg #[.int .i64 (f + 1), .int .i64 (now + pause)]) (by simp [results, Try.results10, go_sem, y0, y1]) rfl ?_
            have hq := HQ.out
            refine ⟨ret_agg2 rfl ?_, by go_grown⟩
            rw [if_neg (by decide), if_pos (by omega)]
          · go_enter Try.func10, Try.ntmps10
            go_wp2_with fail
            refine (c_BreakerValid _ _ _).mono ?_; rintro e w1 ⟨rfl, hb1⟩
            obtain ⟨hc1, hf1, hz1⟩ := bcell hb1
            simp only [World.size_alloc] at hz1
            go_wp2_with (first | (go_at_call 36; refine (c_isTime _ _).mono ?_; rintro e w' ⟨rfl, rfl⟩) | (go_at_call 37; refine (c_in _ _ _ _).mono ?_; rintro e w' ⟨rfl, rfl⟩))
            refine (c_BreakerAllows _ _ _ _).mono ?_; rintro e w2 ⟨rfl, hb2⟩
            have hq := (g0.trans (hb1.mono (by simp; omega))).trans (hb2.mono (by omega))
            have Bx : Box w2 w.heap.size 24 [.int .i64 f, .int .i64 u] := (((Box.new w 24 [.int .i64 f, .int .i64 u]).alloc _).keep hb1).keep hb2
            have By : Box w2 (w.heap.size + 1) 24 [.int .i64 0, .int .i64 0] := by
              have q := ((Box.new (w.alloc (.cells #[.int .i64 f, .int .i64 u] 24)) 24 [.int .i64 0, .int .i64 0]).keep hb1).keep hb2
              rw [World.size_alloc] at q
              exact q
            have x0 := Bx.cell 0
            have x1 := Bx.cell 1
            have x2 := Bx.frozen 0
            have x3 := Bx.frozen 1
            have y0 := By.cell 0
            have y1 := By.cell 1
            have y2 := By.frozen 0
            have y3 := By.frozen 1
            simp only [List.getElem?_cons_zero, List.getElem?_cons_succ] at x0 x1 y0 y1
            have HQ := Lib.hid hq
            clear hc1 hf1 hb1 hb2 hq Bx By
            go_wp2_with fail
            have hnow' : ¬ now < u := by omega
            rw [HF.out, HU.out, if_neg hnow', if_neg hnow']
            refine bodyPost_ret (v := .agg #[.int .i64 (f + 1), .int .i64 u]) (by simp [results, Try.results10, go_sem, y0, y1]) rfl ?_
            have hq := HQ.out
            refine ⟨ret_agg2 rfl ?_, by go_grown⟩
            rw [if_neg (by decide), if_neg (by omega)]
        · have hm : min (f + 1) 100 = 100 := by omega
          rw [hm] at HF HU
          clear hm
          by_cases hmost : most ≤ 100
          · go_enter Try.func10, Try.ntmps10
            go_wp2_with fail
            refine (c_BreakerValid _ _ _).mono ?_; rintro e w1 ⟨rfl, hb1⟩
            obtain ⟨hc1, hf1, hz1⟩ := bcell hb1
            simp only [World.size_alloc] at hz1
            go_wp2_with (first | (go_at_call 36; refine (c_isTime _ _).mono ?_; rintro e w' ⟨rfl, rfl⟩) | (go_at_call 37; refine (c_in _ _ _ _).mono ?_; rintro e w' ⟨rfl, rfl⟩))
            refine (c_BreakerAllows _ _ _ _).mono ?_; rintro e w2 ⟨rfl, hb2⟩
            have hq := (g0.trans (hb1.mono (by simp; omega))).trans (hb2.mono (by omega))
            have Bx : Box w2 w.heap.size 24 [.int .i64 f, .int .i64 u] := (((Box.new w 24 [.int .i64 f, .int .i64 u]).alloc _).keep hb1).keep hb2
            have By : Box w2 (w.heap.size + 1) 24 [.int .i64 0, .int .i64 0] := by
              have q := ((Box.new (w.alloc (.cells #[.int .i64 f, .int .i64 u] 24)) 24 [.int .i64 0, .int .i64 0]).keep hb1).keep hb2
              rw [World.size_alloc] at q
              exact q
            have x0 := Bx.cell 0
            have x1 := Bx.cell 1
            have x2 := Bx.frozen 0
            have x3 := Bx.frozen 1
            have y0 := By.cell 0
            have y1 := By.cell 1
            have y2 := By.frozen 0
            have y3 := By.frozen 1
            simp only [List.getElem?_cons_zero, List.getElem?_cons_succ] at x0 x1 y0 y1
            have HQ := Lib.hid hq
            clear hc1 hf1 hb1 hb2 hq Bx By
            go_wp2_with fail
            have hnow' : ¬ now < u := by omega
            rw [HF.out, HU.out, if_neg hnow', if_neg hnow']
            refine bodyPost_ret (v := .agg #[.int .i64 (100), .int .i64 (now + pause)]) (by simp [results, Try.results10, go_sem, y0, y1]) rfl ?_
            have hq := HQ.out
            refine ⟨ret_agg2 rfl ?_, by go_grown⟩
            rw [if_neg (by decide), if_pos (by omega)]
          · exfalso; omega
      · go_enter Try.func10, Try.ntmps10
        go_wp2_with fail
        refine (c_BreakerValid _ _ _).mono ?_; rintro e w1 ⟨rfl, hb1⟩
        obtain ⟨hc1, hf1, hz1⟩ := bcell hb1
        simp only [World.size_alloc] at hz1
        go_wp2_with (first | (go_at_call 36; refine (c_isTime _ _).mono ?_; rintro e w' ⟨rfl, rfl⟩) | (go_at_call 37; refine (c_in _ _ _ _).mono ?_; rintro e w' ⟨rfl, rfl⟩))
        refine (c_BreakerAllows _ _ _ _).mono ?_; rintro e w2 ⟨rfl, hb2⟩
        have hq := (g0.trans (hb1.mono (by simp; omega))).trans (hb2.mono (by omega))
        have Bx : Box w2 w.heap.size 24 [.int .i64 f, .int .i64 u] := (((Box.new w 24 [.int .i64 f, .int .i64 u]).alloc _).keep hb1).keep hb2
        have By : Box w2 (w.heap.size + 1) 24 [.int .i64 0, .int .i64 0] := by
          have q := ((Box.new (w.alloc (.cells #[.int .i64 f, .int .i64 u] 24)) 24 [.int .i64 0, .int .i64 0]).keep hb1).keep hb2
          rw [World.size_alloc] at q
          exact q
        have x0 := Bx.cell 0
        have x1 := Bx.cell 1
        have x2 := Bx.frozen 0
        have x3 := Bx.frozen 1
        have y0 := By.cell 0
        have y1 := By.cell 1
        have y2 := By.frozen 0
        have y3 := By.frozen 1
        simp only [List.getElem?_cons_zero, List.getElem?_cons_succ] at x0 x1 y0 y1
        have HQ := Lib.hid hq
        clear hc1 hf1 hb1 hb2 hq Bx By
        go_wp2_with fail
        have hnow' : ¬ now < u := by omega
        rw [HF.out, HU.out, if_neg hnow', if_neg hnow']
        refine bodyPost_ret (v := .agg #[.int .i64 0, .int .i64 0]) (by simp [results, Try.results10, go_sem, y0, y1]) rfl ?_
        have hq := HQ.out
        exact ⟨rfl, by go_grown⟩
set_option maxHeartbeats 1600000 in
theorem s_BreakerStep (f u now most pause : Int) (good : Bool) (w : World) :
    Calls Try.prog 11 #[.agg #[.int .i64 f, .int .i64 u], .int .i64 now, .bool good, .int .i64 most, .int .i64 pause] w
      fun e w' => e = .returned (.agg #[.int .i64 (stepF f u now good most pause), .int .i64 (stepU f u now good most pause)]) ∧ Below w.heap.size w w' := by
  have g0 : Below w.heap.size w ((w.alloc (.cells #[.int .i64 f, .int .i64 u] 24)).alloc (.cells #[.int .i64 0, .int .i64 0] 24)) := ((Below.refl _ _).alloc (Nat.le_refl _) _).alloc (by simp) _
  cases hok : stepOk f u now most pause
  · obtain ⟨e1, e2⟩ := step_no (good := good) hok
    have H1 := Lib.hid e1
    have H2 := Lib.hid e2
    clear e1 e2
    have hor : bv f u = false ∨ (bv f u = true ∧ inB now 0 100000 = false) ∨ (bv f u = true ∧ inB now 0 100000 = true ∧ inB most 1 100 = false) ∨ (bv f u = true ∧ inB now 0 100000 = true ∧ inB most 1 100 = true ∧ inB pause 1 100000 = false) := by
      revert hok
      unfold stepOk
      cases bv f u <;> cases inB now 0 100000 <;> cases inB most 1 100 <;> cases inB pause 1 100000 <;> simp
    clear hok
    rcases hor with h1 | ⟨h1, h2⟩ | ⟨h1, h2, h3⟩ | ⟨h1, h2, h3, h4⟩
    all_goals
      go_enter Try.func11, Try.ntmps11
      go_wp2_with fail
      refine (s_BreakerValid _ _ _).mono ?_; rintro e w1 ⟨rfl, hb1⟩
      obtain ⟨hc1, hf1, hz1⟩ := bcell hb1
      simp only [World.size_alloc] at hz1
      go_wp2_with (go_at_call 39; refine (c_l1In _ _ _ _).mono ?_; rintro e w' ⟨rfl, rfl⟩)
      rw [H1.out, H2.out]
      refine bodyPost_ret (v := .agg #[.int .i64 0, .int .i64 0]) (by simp [results, Try.results11, go_sem, hc1]) rfl ?_
      have hq := g0.trans (hb1.mono (by simp; omega))
      exact ⟨rfl, by go_grown⟩
  · have hand : bv f u = true ∧ inB now 0 100000 = true ∧ inB most 1 100 = true ∧ inB pause 1 100000 = true := by
      simp only [stepOk, Bool.and_eq_true] at hok; exact ⟨hok.1.1.1, hok.1.1.2, hok.1.2, hok.2⟩
    obtain ⟨h1, h2, h3, h4⟩ := hand
    obtain ⟨b1, b2, b3, b4⟩ := bv_bd h1
    obtain ⟨b5, b6⟩ := inB_true.1 h2
    obtain ⟨b7, b8⟩ := inB_true.1 h3
    obtain ⟨b9, b10⟩ := inB_true.1 h4
    have HF := Lib.hid (show stepF f u now good most pause = if now < u then f else if good then 0 else min (f + 1) 100 by simp [stepF, hok])
    have HU := Lib.hid (show stepU f u now good most pause = if now < u then u else if good then 0 else if most ≤ min (f + 1) 100 then now + pause else u by simp [stepU, hok])
    have HA := Lib.hid (show allowsB f u now = decide (u ≤ now) by simp [allowsB, h1, h2])
    clear hok
    by_cases hnow : now < u
    · have ha : allowsB f u now = false := by rw [HA.out]; simp; omega
      go_enter Try.func11, Try.ntmps11
      go_wp2_with fail
      refine (s_BreakerValid _ _ _).mono ?_; rintro e w1 ⟨rfl, hb1⟩
      obtain ⟨hc1, hf1, hz1⟩ := bcell hb1
      simp only [World.size_alloc] at hz1
      have hq := g0.trans (hb1.mono (by simp; omega))
      have Bx : Box w1 w.heap.size 24 [.int .i64 f, .int .i64 u] := (((Box.new w 24 [.int .i64 f, .int .i64 u]).alloc _).keep hb1)
      have By : Box w1 (w.heap.size + 1) 24 [.int .i64 0, .int .i64 0] := by
        have q := ((Box.new (w.alloc (.cells #[.int .i64 f, .int .i64 u] 24)) 24 [.int .i64 0, .int .i64 0]).keep hb1)
        rw [World.size_alloc] at q
        exact q
      have x0 := Bx.cell 0
      have x1 := Bx.cell 1
      have x2 := Bx.frozen 0
      have x3 := Bx.frozen 1
      have y0 := By.cell 0
      have y1 := By.cell 1
      have y2 := By.frozen 0
      have y3 := By.frozen 1
      simp only [List.getElem?_cons_zero, List.getElem?_cons_succ] at x0 x1 y0 y1
      have HQ := Lib.hid hq
      clear hc1 hf1 hb1 hq Bx By
      go_wp2_with (go_at_call 39; refine (c_l1In _ _ _ _).mono ?_; rintro e w' ⟨rfl, rfl⟩)
      rw [HF.out, HU.out, if_pos hnow, if_pos hnow]
      refine bodyPost_ret (v := .agg #[.int .i64 f, .int .i64 u]) (by simp [results, Try.results11, go_sem, y0, y1]) rfl ?_
      have hq := HQ.out
      exact ⟨rfl, by go_grown⟩
    · have ha : allowsB f u now = true := by rw [HA.out]; simp; omega
      cases good
      · by_cases hf : f < 99
        · have hm : min (f + 1) 100 = f + 1 := by omega
          rw [hm] at HF HU
          clear hm
          by_cases hmost : most ≤ f + 1
          · go_enter Try.func11, Try.ntmps11
            go_wp2_with fail
            refine (s_BreakerValid _ _ _).mono ?_; rintro e w1 ⟨rfl, hb1⟩
            obtain ⟨hc1, hf1, hz1⟩ := bcell hb1
            simp only [World.size_alloc] at hz1
            have hq := g0.trans (hb1.mono (by simp; omega))
            have Bx : Box w1 w.heap.size 24 [.int .i64 f, .int .i64 u] := (((Box.new w 24 [.int .i64 f, .int .i64 u]).alloc _).keep hb1)
            have By : Box w1 (w.heap.size + 1) 24 [.int .i64 0, .int .i64 0] := by
              have q := ((Box.new (w.alloc (.cells #[.int .i64 f, .int .i64 u] 24)) 24 [.int .i64 0, .int .i64 0]).keep hb1)
              rw [World.size_alloc] at q
              exact q
            have x0 := Bx.cell 0
            have x1 := Bx.cell 1
            have x2 := Bx.frozen 0
            have x3 := Bx.frozen 1
            have y0 := By.cell 0
            have y1 := By.cell 1
            have y2 := By.frozen 0
            have y3 := By.frozen 1
            simp only [List.getElem?_cons_zero, List.getElem?_cons_succ] at x0 x1 y0 y1
            have ky0 := keep y0
            have ky1 := keep y1
            have kf0 := keepF y0 y2
            have kf1 := keepF y1 y3
            have HQ := Lib.hid hq
            clear hc1 hf1 hb1 hq Bx By
            go_wp2_with (go_at_call 39; refine (c_l1In _ _ _ _).mono ?_; rintro e w' ⟨rfl, rfl⟩)
            have hnow' : ¬ now < u := by omega
            rw [HF.out, HU.out, if_neg hnow', if_neg hnow']
            refine bodyPost_ret (v := .agg #[.int .i64 (f + 1), .int .i64 (now + pause)]) (by simp [results, Try.results11, go_sem, ky0, ky1]) rfl ?_
            have hq := HQ.out
            refine ⟨ret_agg2 rfl ?_, by go_grown⟩
            rw [if_neg (by decide), if_pos (by omega)]
          · go_enter Try.func11, Try.ntmps11
            go_wp2_with fail
            refine (s_BreakerValid _ _ _).mono ?_; rintro e w1 ⟨rfl, hb1⟩
            obtain ⟨hc1, hf1, hz1⟩ := bcell hb1
            simp only [World.size_alloc] at hz1
            have hq := g0.trans (hb1.mono (by simp; omega))
            have Bx : Box w1 w.heap.size 24 [.int .i64 f, .int .i64 u] := (((Box.new w 24 [.int .i64 f, .int .i64 u]).alloc _).keep hb1)
            have By : Box w1 (w.heap.size + 1) 24 [.int .i64 0, .int .i64 0] := by
              have q := ((Box.new (w.alloc (.cells #[.int .i64 f, .int .i64 u] 24)) 24 [.int .i64 0, .int .i64 0]).keep hb1)
              rw [World.size_alloc] at q
              exact q
            have x0 := Bx.cell 0
            have x1 := Bx.cell 1
            have x2 := Bx.frozen 0
            have x3 := Bx.frozen 1
            have y0 := By.cell 0
            have y1 := By.cell 1
            have y2 := By.frozen 0
            have y3 := By.frozen 1
            simp only [List.getElem?_cons_zero, List.getElem?_cons_succ] at x0 x1 y0 y1
            have ky0 := keep y0
            have ky1 := keep y1
            have kf0 := keepF y0 y2
            have kf1 := keepF y1 y3
            have HQ := Lib.hid hq
            clear hc1 hf1 hb1 hq Bx By
            go_wp2_with (go_at_call 39; refine (c_l1In _ _ _ _).mono ?_; rintro e w' ⟨rfl, rfl⟩)
            have hnow' : ¬ now < u := by omega
            rw [HF.out, HU.out, if_neg hnow', if_neg hnow']
            refine bodyPost_ret (v := .agg #[.int .i64 (f + 1), .int .i64 u]) (by simp [results, Try.results11, go_sem, ky0, ky1]) rfl ?_
            have hq := HQ.out
            refine ⟨ret_agg2 rfl ?_, by go_grown⟩
            rw [if_neg (by decide), if_neg (by omega)]
        · have hm : min (f + 1) 100 = 100 := by omega
          rw [hm] at HF HU
          clear hm
          by_cases hmost : most ≤ 100
          · go_enter Try.func11, Try.ntmps11
            go_wp2_with fail
            refine (s_BreakerValid _ _ _).mono ?_; rintro e w1 ⟨rfl, hb1⟩
            obtain ⟨hc1, hf1, hz1⟩ := bcell hb1
            simp only [World.size_alloc] at hz1
            have hq := g0.trans (hb1.mono (by simp; omega))
            have Bx : Box w1 w.heap.size 24 [.int .i64 f, .int .i64 u] := (((Box.new w 24 [.int .i64 f, .int .i64 u]).alloc _).keep hb1)
            have By : Box w1 (w.heap.size + 1) 24 [.int .i64 0, .int .i64 0] := by
              have q := ((Box.new (w.alloc (.cells #[.int .i64 f, .int .i64 u] 24)) 24 [.int .i64 0, .int .i64 0]).keep hb1)
              rw [World.size_alloc] at q
              exact q
            have x0 := Bx.cell 0
            have x1 := Bx.cell 1
            have x2 := Bx.frozen 0
            have x3 := Bx.frozen 1
            have y0 := By.cell 0
            have y1 := By.cell 1
            have y2 := By.frozen 0
            have y3 := By.frozen 1
            simp only [List.getElem?_cons_zero, List.getElem?_cons_succ] at x0 x1 y0 y1
            have ky0 := keep y0
            have ky1 := keep y1
            have kf0 := keepF y0 y2
            have kf1 := keepF y1 y3
            have HQ := Lib.hid hq
            clear hc1 hf1 hb1 hq Bx By
            go_wp2_with (go_at_call 39; refine (c_l1In _ _ _ _).mono ?_; rintro e w' ⟨rfl, rfl⟩)
            have hnow' : ¬ now < u := by omega
            rw [HF.out, HU.out, if_neg hnow', if_neg hnow']
            refine bodyPost_ret (v := .agg #[.int .i64 (100), .int .i64 (now + pause)]) (by simp [results, Try.results11, go_sem, ky0, ky1]) rfl ?_
            have hq := HQ.out
            refine ⟨ret_agg2 rfl ?_, by go_grown⟩
            rw [if_neg (by decide), if_pos (by omega)]
          · exfalso; omega
      · go_enter Try.func11, Try.ntmps11
        go_wp2_with fail
        refine (s_BreakerValid _ _ _).mono ?_; rintro e w1 ⟨rfl, hb1⟩
        obtain ⟨hc1, hf1, hz1⟩ := bcell hb1
        simp only [World.size_alloc] at hz1
        have hq := g0.trans (hb1.mono (by simp; omega))
        have Bx : Box w1 w.heap.size 24 [.int .i64 f, .int .i64 u] := (((Box.new w 24 [.int .i64 f, .int .i64 u]).alloc _).keep hb1)
        have By : Box w1 (w.heap.size + 1) 24 [.int .i64 0, .int .i64 0] := by
          have q := ((Box.new (w.alloc (.cells #[.int .i64 f, .int .i64 u] 24)) 24 [.int .i64 0, .int .i64 0]).keep hb1)
          rw [World.size_alloc] at q
          exact q
        have x0 := Bx.cell 0
        have x1 := Bx.cell 1
        have x2 := Bx.frozen 0
        have x3 := Bx.frozen 1
        have y0 := By.cell 0
        have y1 := By.cell 1
        have y2 := By.frozen 0
        have y3 := By.frozen 1
        simp only [List.getElem?_cons_zero, List.getElem?_cons_succ] at x0 x1 y0 y1
        have HQ := Lib.hid hq
        clear hc1 hf1 hb1 hq Bx By
        go_wp2_with (go_at_call 39; refine (c_l1In _ _ _ _).mono ?_; rintro e w' ⟨rfl, rfl⟩)
        have hnow' : ¬ now < u := by omega
        rw [HF.out, HU.out, if_neg hnow', if_neg hnow']
        refine bodyPost_ret (v := .agg #[.int .i64 0, .int .i64 0]) (by simp [results, Try.results11, go_sem, y0, y1]) rfl ?_
        have hq := HQ.out
        exact ⟨rfl, by go_grown⟩
end Go.Proofs.Ytdgfngcfodccmaa
