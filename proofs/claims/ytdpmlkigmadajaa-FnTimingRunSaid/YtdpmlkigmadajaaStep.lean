/- Contracts of TimingStep, of the program and of the reference. No condition. -/
import Derived.Test.YtdpmlkigmadajaaBase
import Derived.Deep.RegionHeld3
namespace Go.Proofs.Ytdpmlkigmadajaa
open Go.RowKit
theorem ret_agg2 {a b c d : Int} (h : a = b) (k : c = d) : Ending.returned (.agg #[.int .i64 a, .int .i64 c]) = .returned (.agg #[.int .i64 b, .int .i64 d]) := by rw [h, k]

/-- WaitOf's value. -/
def waitV (m s : Int) : Int := if tv m s then min (max (m + 4 * s) 10) 40000 else -1
theorem tv_bd {m s : Int} (h : tv m s = true) : 0 ≤ m ∧ m ≤ 10000 ∧ 0 ≤ s ∧ s ≤ 10000 := by
  simp only [tv, Bool.and_eq_true, inB_true] at h; omega
/-- A quotient rounded towards 0. -/
def quoT (x k : Int) : Int := if 0 ≤ x then x / k else -((-x) / k)
theorem tdiv_quoT (x k : Int) : x.tdiv k = quoT x k := by
  unfold quoT
  split
  · rename_i h; exact Int.tdiv_eq_ediv_of_nonneg h
  · rename_i h
    have e : x = -(-x) := by omega
    rw [e, Int.neg_tdiv, Int.tdiv_eq_ediv_of_nonneg (by omega), Int.neg_neg]
/-- The mean and the spread after an answer. -/
def stepM (m s k : Int) : Int := if tv m s && inB k 0 10000 then m + quoT (k - m) 8 else 0
def stepS (m s k : Int) : Int := if tv m s && inB k 0 10000 then s + quoT (max (k - m) (m - k) - s) 4 else 0
theorem quoT_bd (x k B : Int) (hk : 1 ≤ k) (h1 : -B ≤ x) (h2 : x ≤ B) (hB : 0 ≤ B) : -B ≤ quoT x k ∧ quoT x k ≤ B := by
  have e : ∀ y : Int, 0 ≤ y → y ≤ B → 0 ≤ y / k ∧ y / k ≤ B := fun y h0 h => ⟨Int.ediv_nonneg h0 (by omega), Int.le_trans (Int.ediv_le_self k h0) h⟩
  unfold quoT
  split
  · have := e x (by omega) (by omega); omega
  · have := e (-x) (by omega) (by omega); omega
set_option maxHeartbeats 400000 in
theorem c_TimingStep (m s k : Int) (w : World) :
    Calls Try.prog 16 #[.agg #[.int .i64 m, .int .i64 s], .int .i64 k] w fun e w' => e = .returned (.agg #[.int .i64 (stepM m s k), .int .i64 (stepS m s k)]) ∧ Below w.heap.size w w' := by
  have g0 : Below w.heap.size w ((w.alloc (.cells #[.int .i64 m, .int .i64 s] 26)).alloc (.cells #[.int .i64 0, .int .i64 0] 26)) := ((Below.refl _ _).alloc (Nat.le_refl _) _).alloc (by simp) _
  cases htv : tv m s
  · go_enter Try.func16, Try.ntmps16
    go_wp2_with fail
    refine (c_TimingValid _ _ _).mono ?_; rintro e w1 ⟨rfl, hb1⟩
    obtain ⟨hc1, hf1, hz1⟩ := bcell hb1
    simp only [World.size_alloc] at hz1
    go_wp2_with fail
    refine bodyPost_ret (v := .agg #[.int .i64 0, .int .i64 0]) (by simp [results, Try.results16, go_sem, hc1]) rfl ?_
    exact ⟨ret_agg2 (by simp [stepM, htv]) (by simp [stepS, htv]), (g0.trans (hb1.mono (by simp; omega))).setCell (by simp) _ |>.setCell (by simp) _⟩
  · obtain ⟨b1, b2, b3, b4⟩ := tv_bd htv
    cases h2 : inB k 0 10000
    · go_enter Try.func16, Try.ntmps16
      go_wp2_with fail
      refine (c_TimingValid _ _ _).mono ?_; rintro e w1 ⟨rfl, hb1⟩
      obtain ⟨hc1, hf1, hz1⟩ := bcell hb1
      simp only [World.size_alloc] at hz1
      go_wp2_with (go_at_call 50; refine (c_isAnswer _ _).mono ?_; rintro e w' ⟨rfl, rfl⟩)
      refine bodyPost_ret (v := .agg #[.int .i64 0, .int .i64 0]) (by simp [results, Try.results16, go_sem, hc1]) rfl ?_
      exact ⟨ret_agg2 (by simp [stepM, h2]) (by simp [stepS, h2]), (g0.trans (hb1.mono (by simp; omega))).setCell (by simp) _ |>.setCell (by simp) _⟩
    · have b5 := inB_true.1 h2
      obtain ⟨b6, b7⟩ := b5
      have t1 := quoT_bd (k - m) 8 10000 (by omega) (by omega) (by omega) (by omega)
      have t2 := quoT_bd (max (k - m) (m - k) - s) 4 10000 (by omega) (by omega) (by omega) (by omega)
      have H1 := Lib.hid (show stepM m s k = m + quoT (k - m) 8 by simp [stepM, htv, h2])
      have H2 := Lib.hid (show stepS m s k = s + quoT (max (k - m) (m - k) - s) 4 by simp [stepS, htv, h2])
      have HT := Lib.hid (tdiv_quoT)
      obtain ⟨t11, t12⟩ := t1
      obtain ⟨t21, t22⟩ := t2
      have q0 : (k - m).tdiv 8 = quoT (k - m) 8 := tdiv_quoT _ _
      by_cases q1 : m ≤ k <;> by_cases q2 : s ≤ max (k - m) (m - k)
      all_goals
        go_enter Try.func16, Try.ntmps16
        go_wp2_with fail
        refine (c_TimingValid _ _ _).mono ?_; rintro e w1 ⟨rfl, hb1⟩
        obtain ⟨hc1, hf1, hz1⟩ := bcell hb1
        simp only [World.size_alloc] at hz1
        go_wp2_with (go_at_call 50; refine (c_isAnswer _ _).mono ?_; rintro e w' ⟨rfl, rfl⟩)
        rw [H1.out, H2.out]
        refine bodyPost_ret (v := .agg #[.int .i64 (m + quoT (k - m) 8), .int .i64 (s + quoT (max (k - m) (m - k) - s) 4)]) ?_ rfl ?_
        · simp [results, Try.results16, go_sem, hc1]
          first
            | (rw [show max (k - m) (m - k) - s = k - m - s from by omega, quoT, if_pos (by omega)]; done)
            | (rw [show max (k - m) (m - k) - s = -(k - m) - s from by omega, quoT, if_pos (by omega)]; done)
            | (rw [tdiv_quoT, show k - m - s = max (k - m) (m - k) - s from by omega]; exact IntWalk.wrap64_in _ ⟨by omega, by omega⟩)
            | (rw [tdiv_quoT, show -(k - m) - s = max (k - m) (m - k) - s from by omega]; exact IntWalk.wrap64_in _ ⟨by omega, by omega⟩)
        · exact ⟨rfl, (g0.trans (hb1.mono (by simp; omega))).setCell (by simp) _ |>.setCell (by simp) _⟩

theorem s_l33Part (n k : Int) (w : World) (h1 : -100000 ≤ n) (h2 : n ≤ 100000) (k1 : 1 ≤ k) (k2 : k ≤ 8) :
    Calls Try.prog 76 #[.int .i64 n, .int .i64 k] w fun e w' => e = .returned (.int .i64 (quoT n k)) ∧ w = w' := by
  by_cases hn : 0 ≤ n
  · have H := Lib.hid (show quoT n k = n / k by rw [quoT, if_pos hn])
    go_enter Try.func76, Try.ntmps76
    go_wp2
    go_ret
    exact ⟨ret_int H.out.symm, rfl⟩
  · have H := Lib.hid (show quoT n k = -((-n) / k) by rw [quoT, if_neg hn])
    have b1 : 0 ≤ (-n) / k := Int.ediv_nonneg (by omega) (by omega)
    have b2 : (-n) / k ≤ 100000 := Int.le_trans (Int.ediv_le_self k (by omega)) (by omega)
    have e : n.tdiv k = -((-n) / k) := by rw [tdiv_quoT, quoT, if_neg hn]
    go_enter Try.func76, Try.ntmps76
    go_wp2
    go_ret
    exact ⟨ret_int (by rw [H.out]), rfl⟩
set_option maxHeartbeats 400000 in
theorem s_TimingStep (m s k : Int) (w : World) :
    Calls Try.prog 52 #[.agg #[.int .i64 m, .int .i64 s], .int .i64 k] w fun e w' => e = .returned (.agg #[.int .i64 (stepM m s k), .int .i64 (stepS m s k)]) ∧ Below w.heap.size w w' := by
  have g0 : Below w.heap.size w ((w.alloc (.cells #[.int .i64 m, .int .i64 s] 26)).alloc (.cells #[.int .i64 0, .int .i64 0] 26)) := ((Below.refl _ _).alloc (Nat.le_refl _) _).alloc (by simp) _
  cases htv : tv m s
  · go_enter Try.func52, Try.ntmps52
    go_wp2_with fail
    refine (s_TimingValid _ _ _).mono ?_; rintro e w1 ⟨rfl, hb1⟩
    obtain ⟨hc1, hf1, hz1⟩ := bcell hb1
    simp only [World.size_alloc] at hz1
    go_wp2_with fail
    refine bodyPost_ret (v := .agg #[.int .i64 0, .int .i64 0]) (by simp [results, Try.results52, go_sem, hc1]) rfl ?_
    exact ⟨ret_agg2 (by simp [stepM, htv]) (by simp [stepS, htv]), (g0.trans (hb1.mono (by simp; omega))).setCell (by simp) _ |>.setCell (by simp) _⟩
  · obtain ⟨b1, b2, b3, b4⟩ := tv_bd htv
    cases h2 : inB k 0 10000
    · go_enter Try.func52, Try.ntmps52
      go_wp2_with fail
      refine (s_TimingValid _ _ _).mono ?_; rintro e w1 ⟨rfl, hb1⟩
      obtain ⟨hc1, hf1, hz1⟩ := bcell hb1
      simp only [World.size_alloc] at hz1
      go_wp2_with (go_at_call 51; refine (c_l1In _ _ _ _).mono ?_; rintro e w' ⟨rfl, rfl⟩)
      refine bodyPost_ret (v := .agg #[.int .i64 0, .int .i64 0]) (by simp [results, Try.results52, go_sem, hc1]) rfl ?_
      exact ⟨ret_agg2 (by simp [stepM, h2]) (by simp [stepS, h2]), (g0.trans (hb1.mono (by simp; omega))).setCell (by simp) _ |>.setCell (by simp) _⟩
    · have b5 := inB_true.1 h2
      obtain ⟨b6, b7⟩ := b5
      have t1 := quoT_bd (k - m) 8 10000 (by omega) (by omega) (by omega) (by omega)
      have t2 := quoT_bd (max (k - m) (m - k) - s) 4 10000 (by omega) (by omega) (by omega) (by omega)
      have H1 := Lib.hid (show stepM m s k = m + quoT (k - m) 8 by simp [stepM, htv, h2])
      have H2 := Lib.hid (show stepS m s k = s + quoT (max (k - m) (m - k) - s) 4 by simp [stepS, htv, h2])
      obtain ⟨t11, t12⟩ := t1
      obtain ⟨t21, t22⟩ := t2
      by_cases q1 : m ≤ k
      · rw [show max (k - m) (m - k) - s = k - m - s from by omega] at t21 t22 H2
        go_enter Try.func52, Try.ntmps52
        go_wp2_with fail
        refine (s_TimingValid _ _ _).mono ?_; rintro e w1 ⟨rfl, hb1⟩
        obtain ⟨hc1, hf1, hz1⟩ := bcell hb1
        simp only [World.size_alloc] at hz1
        go_wp2_with (go_at_call 51; refine (c_l1In _ _ _ _).mono ?_; rintro e w' ⟨rfl, rfl⟩)
        have c0 : w1.cell? ⟨w.heap.size, 0, none⟩ = some (.int .i64 m) := by simp [hc1, go_sem]
        have c1 : w1.cell? ⟨w.heap.size, 1, none⟩ = some (.int .i64 s) := by simp [hc1, go_sem]
        have p1 : -100000 ≤ k - m := by omega
        have p2 : k - m ≤ 100000 := by omega
        have p3 : -100000 ≤ k - m - s := by omega
        have p4 : k - m - s ≤ 100000 := by omega
        have u1 : IntKind.i64.wrap (k - m - s) = k - m - s := IntWalk.i64_in _ (by omega)
        have u2 : IntKind.i64.wrap (m + quoT (k - m) 8) = m + quoT (k - m) 8 := IntWalk.i64_in _ (by omega)
        have u3 : IntKind.i64.wrap (s + quoT (k - m - s) 4) = s + quoT (k - m - s) 4 := IntWalk.i64_in _ (by omega)
        go_region_held3 (fun w' => w'.cell? ⟨w.heap.size, 0, none⟩ = some (.int .i64 m) ∧ w'.cell? ⟨w.heap.size, 1, none⟩ = some (.int .i64 s)) (go_keep)
          (first
            | (go_at_call_of 76 (Value.int .i64 8); refine (s_l33Part (k - m) 8 _ p1 p2 (by decide) (by decide)).mono ?_; rintro e w' ⟨rfl, rfl⟩)
            | (go_at_call_of 76 (Value.int .i64 4); refine (s_l33Part (k - m - s) 4 _ p3 p4 (by decide) (by decide)).mono ?_; rintro e w' ⟨rfl, rfl⟩))
        clear u1 u2 u3
        go_wp2_with fail
        rw [H1.out, H2.out]
        refine bodyPost_ret (v := .agg #[.int .i64 (m + quoT (k - m) 8), .int .i64 (s + quoT (k - m - s) 4)]) (by simp [results, Try.results52, go_sem, hc1]) rfl ?_
        have hq := g0.trans (hb1.mono (by simp; omega))
        exact ⟨rfl, by go_grown⟩
      · rw [show max (k - m) (m - k) - s = -(k - m) - s from by omega] at t21 t22 H2
        go_enter Try.func52, Try.ntmps52
        go_wp2_with fail
        refine (s_TimingValid _ _ _).mono ?_; rintro e w1 ⟨rfl, hb1⟩
        obtain ⟨hc1, hf1, hz1⟩ := bcell hb1
        simp only [World.size_alloc] at hz1
        go_wp2_with (go_at_call 51; refine (c_l1In _ _ _ _).mono ?_; rintro e w' ⟨rfl, rfl⟩)
        have c0 : w1.cell? ⟨w.heap.size, 0, none⟩ = some (.int .i64 m) := by simp [hc1, go_sem]
        have c1 : w1.cell? ⟨w.heap.size, 1, none⟩ = some (.int .i64 s) := by simp [hc1, go_sem]
        have p1 : -100000 ≤ k - m := by omega
        have p2 : k - m ≤ 100000 := by omega
        have p3 : -100000 ≤ -(k - m) - s := by omega
        have p4 : -(k - m) - s ≤ 100000 := by omega
        have u1 : IntKind.i64.wrap (-(k - m) - s) = -(k - m) - s := IntWalk.i64_in _ (by omega)
        have u2 : IntKind.i64.wrap (m + quoT (k - m) 8) = m + quoT (k - m) 8 := IntWalk.i64_in _ (by omega)
        have u3 : IntKind.i64.wrap (s + quoT (-(k - m) - s) 4) = s + quoT (-(k - m) - s) 4 := IntWalk.i64_in _ (by omega)
        go_region_held3 (fun w' => w'.cell? ⟨w.heap.size, 0, none⟩ = some (.int .i64 m) ∧ w'.cell? ⟨w.heap.size, 1, none⟩ = some (.int .i64 s)) (go_keep)
          (first
            | (go_at_call_of 76 (Value.int .i64 8); refine (s_l33Part (k - m) 8 _ p1 p2 (by decide) (by decide)).mono ?_; rintro e w' ⟨rfl, rfl⟩)
            | (go_at_call_of 76 (Value.int .i64 4); refine (s_l33Part (-(k - m) - s) 4 _ p3 p4 (by decide) (by decide)).mono ?_; rintro e w' ⟨rfl, rfl⟩))
        clear u1 u2 u3
        go_wp2_with fail
        rw [H1.out, H2.out]
        refine bodyPost_ret (v := .agg #[.int .i64 (m + quoT (k - m) 8), .int .i64 (s + quoT (-(k - m) - s) 4)]) (by simp [results, Try.results52, go_sem, hc1]) rfl ?_
        have hq := g0.trans (hb1.mono (by simp; omega))
        exact ⟨rfl, by go_grown⟩
end Go.Proofs.Ytdpmlkigmadajaa
