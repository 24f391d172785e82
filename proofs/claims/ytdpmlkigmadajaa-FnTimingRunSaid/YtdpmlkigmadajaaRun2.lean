/- Contract of the program's TimingRun. No condition but a list of at most 2^20 numbers. -/
import Derived.Test.YtdpmlkigmadajaaRun
namespace Go.Proofs.Ytdpmlkigmadajaa
open Go.RowKit
theorem runT_not {xs : List Int} (h : xs.length = 0 ∨ 50 < xs.length) : runT xs = (0, 0) := by
  rcases h with h | h
  · cases xs with
    | nil => simp [runT, foldT]
    | cons x r => simp at h
  · rw [runT, decide_eq_false (by omega)]; simp
set_option maxHeartbeats 1000000 in
theorem c_TimingRun (a : Option Addr) (n cap : Nat) (xs : List Int) (w : World) (hxs : xs.length = n) (hn : n ≤ 1048576) (hcap : n ≤ cap) (hcm : cap ≤ maxLen) (h : Ints w a xs) :
    Calls Try.prog 13 #[.slice a n cap] w (RetT w (runT xs)) := by
  unfold maxLen at hcm
  have HX := Lib.hid hxs
  have HI := Lib.hid h
  clear h hxs
  by_cases h0 : n = 0
  · subst h0
    have HR := Lib.hid (runT_not (.inl HX.out))
    go_enter Try.func13, Try.ntmps13
    go_wp2
    refine bodyPost_ret (v := .agg #[.int .i64 0, .int .i64 0]) (by simp [results, Try.results13, go_sem]) rfl ?_
    rw [HR.out]
    exact ⟨rfl, by go_grown⟩
  by_cases h5 : 50 < n
  · have HR := Lib.hid (runT_not (.inr (show 50 < xs.length by rw [HX.out]; exact h5)))
    have h5' : (50 : Int) < (n : Int) := by omega
    have h0' : ((n : Int) == 0) = false := by simp; omega
    go_enter Try.func13, Try.ntmps13
    go_wp2
    refine bodyPost_ret (v := .agg #[.int .i64 0, .int .i64 0]) (by simp [results, Try.results13, go_sem]) rfl ?_
    rw [HR.out]
    exact ⟨rfl, by go_grown⟩
  have h5' : (n : Int) ≤ 50 := by omega
  have h0' : ((n : Int) == 0) = false := by simp; omega
  have h0'' : 0 < n := by omega
  rcases HI.out with hnil | ⟨b, off, ha, hb, hcell⟩
  · have := HX.out; rw [hnil] at this; simp at this; omega
  have HC := Lib.hid hcell
  clear hcell h0
  subst ha
  go_enter Try.func13, Try.ntmps13
  go_wp2
  go_loop [19] (fun i => ∃ (k : Nat), k ≤ n ∧ i = .int .i64 k ∧ Hid (∀ j, j < k → inB (xs.getD j 0) 0 10000 = true)) (fun i => n - (intOf i).toNat)
  case atStart => exact ⟨0, Nat.zero_le _, rfl, Lib.hid fun j hj => by omega⟩
  case round =>
    obtain ⟨k, hk, rfl, HV⟩ := hrel
    by_cases hlt : k < n
    · have hc1 := HC.out k (by have := HX.out; omega)
      generalize hxk : xs.getD k 0 = xk at hc1
      have HXK := Lib.hid hxk
      clear hxk
      cases hv : inB xk 0 10000
      · go_wp2_with (go_at_call 50; refine (c_isAnswer _ _).mono ?_; rintro e w' ⟨rfl, rfl⟩)
        refine bodyPost_ret (v := .agg #[.int .i64 0, .int .i64 0]) (by simp [results, Try.results13, go_sem]) rfl ?_
        have hr : runT xs = (0, 0) := by rw [runT, allAns_not (k := k) (by have := HX.out; omega) (by rw [HXK.out]; exact hv)]; simp
        rw [hr]
        exact ⟨rfl, by go_grown⟩
      · go_wp2_with (go_at_call 50; refine (c_isAnswer _ _).mono ?_; rintro e w' ⟨rfl, rfl⟩)
        go_round
        case rel =>
          refine ⟨k + 1, by omega, by go_num, Lib.hid fun j hj => ?_⟩
          by_cases hjk : j = k
          · subst hjk; rw [HXK.out]; exact hv
          · exact HV.out j (by omega)
        case measure => simp [intOf]; omega
    · obtain rfl : k = n := by omega
      have hr : runT xs = foldT xs := by
        rw [runT, allAns_of (by rw [HX.out]; exact HV.out), decide_eq_true (by have := HX.out; omega)]; simp
      have HR := Lib.hid hr
      clear hr
      have hc0 := HC.out 0 (by have := HX.out; omega)
      rw [Nat.add_zero] at hc0
      generalize hx0 : xs.getD 0 0 = x0 at hc0
      have HX0 := Lib.hid hx0
      have hv0 := HV.out 0 (by omega)
      rw [hx0] at hv0
      clear hx0
      obtain ⟨x1, x2⟩ := inB_true.1 hv0
      clear hv0
      go_wp2
      have u1 : IntKind.i64.wrap (x0.tdiv 2) = x0 / 2 := by rw [Int.tdiv_eq_ediv_of_nonneg x1]; exact IntWalk.i64_in _ (by omega)
      have hne : b ≠ w.heap.size + 1 := by omega
      have hne' : w.heap.size + 1 ≠ b := by omega
      have hne2 : b ≠ w.heap.size := by omega
      go_region_held3 (fun w' => w'.cell? ⟨b, off, none⟩ = some (.int .i64 x0)) (go_keep) (fail)
      clear u1
      have hG0 : Below w.heap.size w (((w.alloc (.cells #[.int .i64 0, .int .i64 0] 26)).alloc (.cells #[.int .i64 x0, .int .i64 (x0 / 2)] 26)).drew) := by go_grown
      have B0 : Box (((w.alloc (.cells #[.int .i64 0, .int .i64 0] 26)).alloc (.cells #[.int .i64 x0, .int .i64 (x0 / 2)] 26)).drew) w.heap.size 26 [.int .i64 0, .int .i64 0] := (Box.new w 26 [_, _]).alloc _
      have B1 : Box (((w.alloc (.cells #[.int .i64 0, .int .i64 0] 26)).alloc (.cells #[.int .i64 x0, .int .i64 (x0 / 2)] 26)).drew) (w.heap.size + 1) 26 [.int .i64 (foldT (xs.take 1)).1, .int .i64 (foldT (xs.take 1)).2] := by
        rw [foldT_one xs (by have := HX.out; omega), HX0.out]
        have q := Box.new (w.alloc (.cells #[.int .i64 0, .int .i64 0] 26)) 26 [.int .i64 x0, .int .i64 (x0 / 2)]
        rw [World.size_alloc] at q
        exact q
      have HG0 := Lib.hid hG0
      have HB0 := Lib.hid B0
      have HB1 := Lib.hid B1
      clear hG0 B0 B1
      by_cases hcap1 : cap = 1
      · subst hcap1
        obtain rfl : k = 1 := by omega
        have r0 := HB0.out.cell 0
        have r1 := HB0.out.cell 1
        have r2 := HB0.out.frozen 0
        have r3 := HB0.out.frozen 1
        have s0 := HB1.out.cell 0
        have s1 := HB1.out.cell 1
        simp only [List.getElem?_cons_zero, List.getElem?_cons_succ] at r0 r1 s0 s1
        go_wp2
        go_rounds 1
        refine bodyPost_ret (v := .agg #[.int .i64 (foldT (xs.take 1)).1, .int .i64 (foldT (xs.take 1)).2]) (by simp [results, Try.results13, go_sem]) rfl ?_
        rw [HR.out, List.take_of_length_le (by have := HX.out; omega)]
        have hq := HG0.out
        exact ⟨rfl, by go_grown⟩
      · have hcap2 : 1 < cap := by omega
        go_wp2
        go_loopw [39] (fun i wr => ∃ (j : Nat), j + 1 ≤ k ∧ i = .int .i64 j ∧ Below w.heap.size w wr ∧ Box wr w.heap.size 26 [.int .i64 0, .int .i64 0] ∧ Box wr (w.heap.size + 1) 26 [.int .i64 (foldT (xs.take (j + 1))).1, .int .i64 (foldT (xs.take (j + 1))).2]) (fun i _ => k - (intOf i).toNat)
        case atStart => exact ⟨0, by omega, rfl, HG0.out, HB0.out, HB1.out⟩
        case round =>
          obtain ⟨j, hj, rfl, hG, hB0, hB1⟩ := hrel
          have HG := Lib.hid hG
          have HB0 := Lib.hid hB0
          have HB1 := Lib.hid hB1
          clear hG hB0 hB1
          have r0 := HB0.out.cell 0
          have r1 := HB0.out.cell 1
          have r2 := HB0.out.frozen 0
          have r3 := HB0.out.frozen 1
          have s0 := HB1.out.cell 0
          have s1 := HB1.out.cell 1
          have s2 := HB1.out.frozen 0
          have s3 := HB1.out.frozen 1
          simp only [List.getElem?_cons_zero, List.getElem?_cons_succ] at r0 r1 s0 s1
          generalize hF : foldT (xs.take (j + 1)) = F at s0 s1
          have HF := Lib.hid hF
          clear hF
          by_cases hlt : j + 1 < k
          · have hcw := HC.out (j + 1) (by have := HX.out; omega)
            rw [show off + (j + 1) = off + 1 + j from by omega] at hcw
            have hc1 := (HG.out.cell (p := ⟨b, off + 1 + j, none⟩) hb).trans hcw
            clear hcw
            generalize hxk : xs.getD (j + 1) 0 = xk at hc1
            have HXK := Lib.hid hxk
            clear hxk
            have hlt2 : j < k - 1 := by omega
            go_wp2_with fail
            refine (c_TimingStep _ _ _ _).mono ?_; rintro e w' ⟨rfl, hb'⟩
            have B1 := HB1.out.keep hb'
            have q0 := B1.cell 0
            have q1 := B1.cell 1
            have q2 := B1.frozen 0
            have q3 := B1.frozen 1
            simp only [List.getElem?_cons_zero, List.getElem?_cons_succ] at q0 q1
            have B1' := Lib.hid B1
            clear B1
            go_wp2
            go_roundw
            case rel =>
              have z0 := HG.out.size
              have hq2 := Below.step HG.out hb' z0
              refine ⟨j + 1, by omega, by go_num, by go_grown, ?_, ?_⟩
              · exact ((HB0.out.keep hb').other (by simp) _).other (by simp) _
              · rw [foldT_snoc xs (j + 1) (by have := HX.out; omega) (by omega), HXK.out, HF.out]
                exact (B1'.out.set 0 (.int .i64 (stepM F.1 F.2 xk))).set 1 (.int .i64 (stepS F.1 F.2 xk))
            case measure => simp [intOf]; omega
          · have hlt2 : ¬ j < k - 1 := by omega
            go_wp2
            refine bodyPost_ret (v := .agg #[.int .i64 F.1, .int .i64 F.2]) (by simp [results, Try.results13, go_sem, r0, r1]) rfl ?_
            rw [HR.out, ← HF.out, List.take_of_length_le (by have := HX.out; omega)]
            have hq := HG.out
            exact ⟨rfl, by go_grown⟩
end Go.Proofs.Ytdpmlkigmadajaa
