/- The walk of the law FnTimingRun: true for all bytes. No condition. -/
import Derived.Test.YtdpmlkigmadajaaDTr
import Derived.Test.YtdpmlkigmadajaaDTrP
import Derived.Test.YtdpmlkigmadajaaNew
import Derived.Test.YtdpmlkigmadajaaAppG
namespace Go.Proofs.Ytdpmlkigmadajaa
open Go.RowKit
theorem held_alloc {w w' : World} {g : Nat} {M S : Int} (h : w'.cell? ⟨g, 0, none⟩ = some (.int .i64 M) ∧ w'.cell? ⟨g, 1, none⟩ = some (.int .i64 S) ∧ Below w.heap.size w w') (o : Obj) :
    (w'.alloc o).cell? ⟨g, 0, none⟩ = some (.int .i64 M) ∧ (w'.alloc o).cell? ⟨g, 1, none⟩ = some (.int .i64 S) ∧ Below w.heap.size w (w'.alloc o) :=
  ⟨keep h.1 o, keep h.2.1 o, h.2.2.alloc h.2.2.size o⟩
theorem min_if (a b : Int) : min a b = if b < a then b else a := by
  split <;> omega
theorem max_if (a b : Int) : max a b = if a < b then b else a := by
  split <;> omega
set_option maxHeartbeats 2000000 in
theorem walkTimingRun (a : Option Addr) (n cap : Nat) (z : List Int) (w : World) (w0 : IsRow .u8 w a n cap z) :
    Calls Try.prog 3 #[.slice a n cap] w fun e w' => e = .returned (.bool true) ∧ Below w.heap.size w w' := by
  by_cases hbig : 1048576 < n
  · have hb' : (1048576 : Int) < (n : Int) := by omega
    go_enter Try.func3, Try.ntmps3
    go_wp2
    go_ret
    exact ⟨rfl, Below.refl _ _⟩
  have hn' : (n : Int) ≤ 1048576 := by omega
  obtain ⟨hcl, hcap⟩ := w0.caps
  have HC := Lib.hid w0.code
  clear w0 hbig
  go_enter Try.func3, Try.ntmps3
  go_wp2_with fail
  refine (s_DrawTimingRun a n cap _ hcl hcap HC.out).mono ?_
  rintro e w1 ⟨b, c, xs, rfl, hl, hx, ho, b1⟩
  have z1 := b1.size
  have Q1 := Lib.hid b1
  have O1 := Lib.hid ho
  have HCap := Lib.hid (own_cap ho)
  clear b1 ho hx
  obtain ⟨M, S, hMS⟩ : ∃ M S, runT xs = (M, S) := ⟨_, _, rfl⟩
  have HMS := Lib.hid hMS
  clear hMS
  go_wp2_with fail
  refine (c_run2 _ _ _ xs M S HMS.out _ rfl (by omega) HCap.out.1 HCap.out.2 (ownsRow.ints O1.out)).mono ?_; rintro e w2 ⟨rfl, b2⟩
  have z2 := b2.size
  have Q2 := Lib.hid ((Below.step Q1.out b2 z1).alloc (by omega) (.cells #[.int .i64 M, .int .i64 S] 26))
  have O2 := Lib.hid (((own_kept O1.out (below_grown b2) (fun k _ => by simp)).alloc (.cells #[.int .i64 M, .int .i64 S] 26)).drew)
  have HX := Lib.hid (Box.new w2 26 [.int .i64 M, .int .i64 S])
  have x0 := HX.out.cell 0
  have x1 := HX.out.cell 1
  simp only [List.getElem?_cons_zero, List.getElem?_cons_succ] at x0 x1
  clear b2
  go_wp2_with fail
  have q2 : Below w.heap.size w (w2.alloc (.cells #[.int .i64 M, .int .i64 S] 26)).drew := ⟨Q2.out.os, Q2.out.tape, Q2.out.output, Q2.out.size, Q2.out.block⟩
  go_region_held3 (fun w' => w'.cell? ⟨w2.heap.size, 0, none⟩ = some (.int .i64 M) ∧ w'.cell? ⟨w2.heap.size, 1, none⟩ = some (.int .i64 S) ∧ Below w.heap.size w w') (first | assumption | go_keep | (refine ⟨?_, ?_, ?_⟩ <;> first | assumption | go_keep | go_grown))
    (first
      | (go_at_call 14; (with_reducible refine (s_run2 _ _ _ xs M S HMS.out _ rfl (by omega) (ownsRow.ints O2.out)).mono ?_); rintro e w' ⟨rfl, hb⟩
         have kk0 := hb.cell (p := ⟨w2.heap.size, 0, none⟩) (World.block_lt_of_cell? _ _ (by assumption))
         have kk1 := hb.cell (p := ⟨w2.heap.size, 1, none⟩) (World.block_lt_of_cell? _ _ (by assumption))
         have kk4 : Below w.heap.size w w' := Below.step (by assumption) hb (by have := Below.size (by assumption : Below w.heap.size w _); omega)
         have O3 := Lib.hid (own_kept O2.out (below_grown hb) (fun k _ => by simp))
         clear hb))
  clear kk0 kk1 kk4
  rename_i w3 held
  obtain ⟨y0, y1, q3⟩ := held
  have Q3 := Lib.hid q3
  have z3 := q3.size
  have l1 := World.block_lt_of_cell? _ _ y0
  simp only at l1
  clear q2 q3 Q1 Q2 HX x0 x1 O1 O2
  by_cases h0 : xs.length = 0
  · have h0' : ((xs.length : Int) == 0) = true := beq_iff_eq.2 (by omega)
    clear h0
    go_wp2_with fail
    have q3 := Q3.out.drew
    have y0' : w'.drew.cell? ⟨w2.heap.size, 0, none⟩ = some (.int .i64 M) := y0
    have y1' : w'.drew.cell? ⟨w2.heap.size, 1, none⟩ = some (.int .i64 S) := y1
    have OD := Lib.hid (O3.out.drew)
    go_region_held3 (fun w' => w'.cell? ⟨w2.heap.size, 0, none⟩ = some (.int .i64 M) ∧ w'.cell? ⟨w2.heap.size, 1, none⟩ = some (.int .i64 S) ∧ Below w.heap.size w w') (first | assumption | exact held_alloc (by assumption) _ | exact ⟨by assumption, by assumption, by assumption⟩)
      (first
        | (go_at_call 13; (with_reducible refine (c_run2 _ _ _ xs M S HMS.out _ rfl (by omega) HCap.out.1 HCap.out.2 (ownsRow.ints OD.out)).mono ?_); rintro e w6 ⟨rfl, hb6⟩
           have kk6 := hb6.cell (p := ⟨w2.heap.size, 0, none⟩) (World.block_lt_of_cell? _ _ y0')
           have kk7 := hb6.cell (p := ⟨w2.heap.size, 1, none⟩) (World.block_lt_of_cell? _ _ y1')
           rw [y0'] at kk6
           rw [y1'] at kk7
           have kk8 : Below w.heap.size w w6 := Below.step q3 hb6 q3.size
           clear hb6)
        | (go_at_call 15; (with_reducible refine (c_alive _).mono ?_); rintro e w7 ⟨rfl, hb7⟩
           have kk9 := hb7.cell (p := ⟨w2.heap.size, 0, none⟩) (World.block_lt_of_cell? _ _ kk6)
           have kk10 := hb7.cell (p := ⟨w2.heap.size, 1, none⟩) (World.block_lt_of_cell? _ _ kk7)
           rw [kk6] at kk9
           rw [kk7] at kk10
           have kk11 : Below w.heap.size w w7 := Below.step kk8 hb7 kk8.size
           clear hb7))
    rename_i held
    have Q9 := Lib.hid held.2.2
    clear held
    go_wp2_with fail
    go_ret
    exact ⟨rfl, Q9.out⟩
  by_cases h49 : 49 < xs.length
  · have h0' : ((xs.length : Int) == 0) = false := beq_eq_false_iff_ne.2 (by omega)
    have h49' : (49 : Int) < (xs.length : Int) := by omega
    go_wp2_with fail
    have q3 := Q3.out.drew
    have y0' : w'.drew.cell? ⟨w2.heap.size, 0, none⟩ = some (.int .i64 M) := y0
    have y1' : w'.drew.cell? ⟨w2.heap.size, 1, none⟩ = some (.int .i64 S) := y1
    have OD := Lib.hid (O3.out.drew)
    go_region_held3 (fun w' => w'.cell? ⟨w2.heap.size, 0, none⟩ = some (.int .i64 M) ∧ w'.cell? ⟨w2.heap.size, 1, none⟩ = some (.int .i64 S) ∧ Below w.heap.size w w') (first | assumption | exact held_alloc (by assumption) _ | exact ⟨by assumption, by assumption, by assumption⟩)
      (first
        | (go_at_call 13; (with_reducible refine (c_run2 _ _ _ xs M S HMS.out _ rfl (by omega) HCap.out.1 HCap.out.2 (ownsRow.ints OD.out)).mono ?_); rintro e w6 ⟨rfl, hb6⟩
           have kk6 := hb6.cell (p := ⟨w2.heap.size, 0, none⟩) (World.block_lt_of_cell? _ _ y0')
           have kk7 := hb6.cell (p := ⟨w2.heap.size, 1, none⟩) (World.block_lt_of_cell? _ _ y1')
           rw [y0'] at kk6
           rw [y1'] at kk7
           have kk8 : Below w.heap.size w w6 := Below.step q3 hb6 q3.size
           clear hb6)
        | (go_at_call 15; (with_reducible refine (c_alive _).mono ?_); rintro e w7 ⟨rfl, hb7⟩
           have kk9 := hb7.cell (p := ⟨w2.heap.size, 0, none⟩) (World.block_lt_of_cell? _ _ kk6)
           have kk10 := hb7.cell (p := ⟨w2.heap.size, 1, none⟩) (World.block_lt_of_cell? _ _ kk7)
           rw [kk6] at kk9
           rw [kk7] at kk10
           have kk11 : Below w.heap.size w w7 := Below.step kk8 hb7 kk8.size
           clear hb7))
    rename_i held
    have Q9 := Lib.hid held.2.2
    clear held
    go_wp2_with fail
    go_ret
    exact ⟨rfl, Q9.out⟩
  have h0' : ((xs.length : Int) == 0) = false := beq_eq_false_iff_ne.2 (by omega)
  have h49' : (xs.length : Int) ≤ 49 := by omega
  have I3 := Lib.hid (ownsRow.ints O3.out)
  rcases (ownsRow.ints O3.out) with hnil | ⟨b', o', ha, hb, hcell⟩
  · rw [hnil] at h0; exact absurd rfl h0
  injection ha with ha
  injection ha with ha1 ha2
  subst ha1 ha2
  have HCell := Lib.hid hcell
  clear hcell
  have c0 := HCell.out 0 (by omega)
  rw [Nat.zero_add] at c0
  have HStart := Lib.hid (Rng.start (xs := xs) (by omega))
  generalize xs.getD 0 0 = v0 at *
  have hlen0 : (0 : Int) < (xs.length : Int) := by omega
  go_wp2
  go_loop [5, 6, 7] (fun s t i => ∃ (k : Nat) (lo hi : Int), k ≤ xs.length ∧ i = .int .i64 k ∧ s = .int .i64 lo ∧ t = .int .i64 hi ∧ Rng xs k lo hi) (fun _ _ i => xs.length - (intOf i).toNat)
  case atStart => exact ⟨0, v0, v0, Nat.zero_le _, rfl, rfl, rfl, HStart.out⟩
  case round =>
    obtain ⟨k, lo, hi, hk, rfl, rfl, rfl, hrng⟩ := hrel
    have HR := Lib.hid hrng
    clear hrng
    by_cases hlt : k < xs.length
    · have ck := HCell.out k hlt
      rw [Nat.zero_add] at ck
      have HN := Lib.hid (HR.out.next hlt)
      generalize xs.getD k 0 = v at *
      have HN2 : Hid (Rng xs (k + 1) (if v < lo then v else lo) (if hi < v then v else hi)) := Lib.hid (by
        have := HN.out
        rwa [min_if, max_if] at this)
      clear HN
      go_wp2
      go_round
      case rel => exact ⟨k + 1, _, _, by omega, by go_num, rfl, rfl, HN2.out⟩
      case measure => simp [intOf]; omega
    · obtain rfl : k = xs.length := by omega
      by_cases hbad : lo < 0 ∨ 10000 < hi
      · have hz := HMS.out.symm.trans (HR.out.bad hbad)
        injection hz with hz1 hz2
        subst hz1 hz2
        by_cases hlo : lo < 0
        · go_wp2_with fail
          go_ret
          exact ⟨rfl, Q3.out⟩
        · have hhi : 10000 < hi := by omega
          go_wp2_with fail
          go_ret
          exact ⟨rfl, Q3.out⟩
      · have hlo : 0 ≤ lo := by omega
        have hhi : hi ≤ 10000 := by omega
        have hbt := HR.out.between hlo hhi (by omega) (by omega)
        rw [HMS.out] at hbt
        obtain ⟨hb1, hb2⟩ := hbt
        have hb1 : lo ≤ M := hb1
        have hb2 : M ≤ hi := hb2
        have HSn := Lib.hid (runT_snoc (k := 50) (HR.out.good hlo hhi) (by decide) (by omega) (by omega))
        clear hbad
        go_wp2_with fail
        have q3 := Q3.out.drew
        have y0' : w'.drew.cell? ⟨w2.heap.size, 0, none⟩ = some (.int .i64 M) := y0
        have y1' : w'.drew.cell? ⟨w2.heap.size, 1, none⟩ = some (.int .i64 S) := y1
        have OD := Lib.hid (O3.out.drew)
        obtain ⟨M', S', hM', hS'⟩ : ∃ M' S', stepM M S 50 = M' ∧ stepS M S 50 = S' := ⟨_, _, rfl, rfl⟩
        have HR2 : Hid (runT (xs ++ [50]) = (M', S')) := Lib.hid (by rw [HSn.out, HMS.out, ← hM', ← hS']; rfl)
        have HC2 := Lib.hid (fun W => c_TimingStep M S 50 W)
        rw [hM', hS'] at HC2
        clear hM' hS' HSn
        have hzd : w'.drew.heap.size = w'.heap.size := rfl
        have HZ := Lib.hid hzd
        clear hzd
        go_region_held3 (fun w' => w'.cell? ⟨w2.heap.size, 0, none⟩ = some (.int .i64 M) ∧ w'.cell? ⟨w2.heap.size, 1, none⟩ = some (.int .i64 S) ∧ Below w.heap.size w w') (first | assumption | exact held_alloc (by assumption) _ | exact ⟨by assumption, by assumption, by assumption⟩)
          (first
            | (go_at_call 13; (with_reducible refine (c_run2 _ _ _ (xs ++ [50]) M' S' HR2.out _ (by simp) (by omega) HCap5.out.1 HCap5.out.2 (ownsRow.ints hown5)).mono ?_); rintro e w6 ⟨rfl, hb6⟩
               have kk6 := hb6.cell (p := ⟨w2.heap.size, 0, none⟩) (World.block_lt_of_cell? _ _ kk3)
               have kk7 := hb6.cell (p := ⟨w2.heap.size, 1, none⟩) (World.block_lt_of_cell? _ _ kk4)
               rw [kk3] at kk6
               rw [kk4] at kk7
               have kk8 : Below w.heap.size w w6 := Below.step kk5 hb6 kk5.size
               clear hb6)
            | (go_at_call 16; (with_reducible refine (HC2.out _).mono ?_); rintro e w7 ⟨rfl, hb7⟩
               have kk9 := hb7.cell (p := ⟨w2.heap.size, 0, none⟩) (World.block_lt_of_cell? _ _ kk6)
               have kk10 := hb7.cell (p := ⟨w2.heap.size, 1, none⟩) (World.block_lt_of_cell? _ _ kk7)
               rw [kk6] at kk9
               rw [kk7] at kk10
               have kk11 : Below w.heap.size w w7 := Below.step kk8 hb7 kk8.size
               clear hb7)
            | (refine step_app _ rfl (.tmp 78) (.tmp 79) rfl w'.heap.size (.slice (some ⟨w'.heap.size, 0, none⟩) 0 0) 0 [] rfl (own_emp w'.drew (Nat.le_refl _)) ⟨b, 0, none⟩ xs.length c xs rfl rfl ((OD.out.alloc _).cells rfl) (by omega) (by omega) (by simp <;> omega) xs.length (by omega) xs rfl ?_
               intro b4 cap4 w4 hown4 hgrow4 hat4 hlt4
               have kk0 : w4.cell? ⟨w2.heap.size, 0, none⟩ = some (.int .i64 M) := hgrow4.cell (keep y0' _) (by simp [Value.ownBlock]; omega)
               have kk1 : w4.cell? ⟨w2.heap.size, 1, none⟩ = some (.int .i64 S) := hgrow4.cell (keep y1' _) (by simp [Value.ownBlock]; omega)
               have kk2 : Below w.heap.size w w4 := (q3.alloc q3.size _).grown hgrow4 (by simp; omega) (by simp [Value.ownBlock]; omega)
               have kz4 : w'.heap.size ≤ w4.heap.size := by have := (hown4.lt b4 rfl); omega)
            | (refine step_app _ rfl (.tmp 78) (.tmp 79) rfl w'.heap.size (.slice (some ⟨w'.heap.size, 0, none⟩) 0 0) 0 [] rfl ((own_emp w'.drew (Nat.le_refl _)).alloc _) ⟨b, 0, none⟩ xs.length c xs rfl rfl (((OD.out.alloc _).alloc _).cells rfl) (by omega) (by omega) (by simp <;> omega) xs.length (by omega) xs rfl ?_
               intro b4 cap4 w4 hown4 hgrow4 hat4 hlt4
               have kk0 : w4.cell? ⟨w2.heap.size, 0, none⟩ = some (.int .i64 M) := hgrow4.cell (keep (keep y0' _) _) (by simp [Value.ownBlock]; omega)
               have kk1 : w4.cell? ⟨w2.heap.size, 1, none⟩ = some (.int .i64 S) := hgrow4.cell (keep (keep y1' _) _) (by simp [Value.ownBlock]; omega)
               have kk2 : Below w.heap.size w w4 := ((q3.alloc q3.size _).alloc (by simp; omega) _).grown hgrow4 (by simp; omega) (by simp [Value.ownBlock]; omega)
               have kz4 : w'.heap.size ≤ w4.heap.size := by have := (hown4.lt b4 rfl); omega
               have kc : w4.cell? ⟨w'.heap.size + 1, 0, none⟩ = some (.int .i64 50) := hgrow4.cell (cell_new2 (w'.drew.alloc (.cells #[] 3)) (.int .i64 50) 3 (w'.heap.size + 1) (by simp)) (by simp [Value.ownBlock]))
            | (refine step_app _ rfl (.tmp 78) (.tmp 79) rfl w'.heap.size (.slice (some ⟨w'.heap.size + 1, 0, none⟩) 0 0) 0 [] rfl (own_emp2 (w'.drew.alloc (.cells #[.int .i64 50] 3)) (w'.heap.size + 1) (by simp) (by omega)) ⟨b, 0, none⟩ xs.length c xs rfl rfl (((OD.out.alloc _).alloc _).cells rfl) (by omega) (by omega) (by simp <;> omega) xs.length (by omega) xs rfl ?_
               intro b4 cap4 w4 hown4 hgrow4 hat4 hlt4
               have kk0 : w4.cell? ⟨w2.heap.size, 0, none⟩ = some (.int .i64 M) := hgrow4.cell (keep (keep y0' _) _) (by simp [Value.ownBlock]; omega)
               have kk1 : w4.cell? ⟨w2.heap.size, 1, none⟩ = some (.int .i64 S) := hgrow4.cell (keep (keep y1' _) _) (by simp [Value.ownBlock]; omega)
               have kk2 : Below w.heap.size w w4 := ((q3.alloc q3.size _).alloc (by simp; omega) _).grown hgrow4 (by simp; omega) (by simp [Value.ownBlock]; omega)
               have kz4 : w'.heap.size ≤ w4.heap.size := by have := (hown4.lt b4 rfl); omega
               have kc : w4.cell? ⟨w'.heap.size, 0, none⟩ = some (.int .i64 50) := hgrow4.cell (keep (cell_new1 w'.drew _ _) _) (by simp [Value.ownBlock]))
            | (refine step_app _ rfl (.tmp 80) (.tmp 81) rfl w'.heap.size (.slice (some ⟨b4, 0, none⟩) xs.length cap4) xs.length xs rfl (hown4.alloc _) ⟨w4.heap.size, 0, none⟩ 1 1 [50] rfl rfl (one_news (cell_new1 w4 _ _)) (by omega) (by omega) (by simp; omega) (xs.length + 1) rfl (xs ++ [50]) rfl ?_
               intro b5 cap5 w5 hown5 hgrow5 hat5 hlt5
               have hne5 : w'.heap.size ≤ b4 := (hown4.lt b4 rfl).1
               have kk3 : w5.cell? ⟨w2.heap.size, 0, none⟩ = some (.int .i64 M) := hgrow5.cell (keep kk0 _) (by simp [Value.ownBlock]; omega)
               have kk4 : w5.cell? ⟨w2.heap.size, 1, none⟩ = some (.int .i64 S) := hgrow5.cell (keep kk1 _) (by simp [Value.ownBlock]; omega)
               have kk5 : Below w.heap.size w w5 := (kk2.alloc kk2.size _).grown hgrow5 (by simp; omega) (by simp [Value.ownBlock]; omega)
               have HCap5 := Lib.hid (own_cap hown5))
            | (refine step_app _ rfl (.tmp 80) (.tmp 81) rfl w'.heap.size (.slice (some ⟨b4, 0, none⟩) xs.length cap4) xs.length xs rfl hown4 _ 1 1 [50] rfl rfl (one_news kc) (by omega) (by omega) (by omega) (xs.length + 1) rfl (xs ++ [50]) rfl ?_
               intro b5 cap5 w5 hown5 hgrow5 hat5 hlt5
               have hne5 : w'.heap.size ≤ b4 := (hown4.lt b4 rfl).1
               have kk3 : w5.cell? ⟨w2.heap.size, 0, none⟩ = some (.int .i64 M) := hgrow5.cell kk0 (by simp [Value.ownBlock]; omega)
               have kk4 : w5.cell? ⟨w2.heap.size, 1, none⟩ = some (.int .i64 S) := hgrow5.cell kk1 (by simp [Value.ownBlock]; omega)
               have kk5 : Below w.heap.size w w5 := kk2.grown hgrow5 (by omega) (by simp [Value.ownBlock]; omega)
               have HCap5 := Lib.hid (own_cap hown5))
            | fail)
        all_goals
          rename_i held
          have Q9 := Lib.hid held.2.2
          clear held
          go_wp2_with fail
          go_ret
          exact ⟨rfl, Q9.out⟩
end Go.Proofs.Ytdpmlkigmadajaa
