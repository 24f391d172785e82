/- Contracts of TimingRun, of the program and of the reference. No condition but a list of at most 2^20 numbers. -/
import Derived.Test.YtdpmlkigmadajaaStep
namespace Go.Proofs.Ytdpmlkigmadajaa
open Go.RowKit
/-- One answer more. -/
def stepP (t : Int × Int) (k : Int) : Int × Int := (stepM t.1 t.2 k, stepS t.1 t.2 k)
/-- What is known after the answers. -/
def foldT : List Int → Int × Int
  | [] => (0, 0)
  | x :: r => r.foldl stepP (x, x / 2)
def allAns (xs : List Int) : Bool := xs.all fun x => inB x 0 10000
def runT (xs : List Int) : Int × Int := if decide (xs.length ≤ 50) && allAns xs then foldT xs else (0, 0)
theorem foldT_snoc (xs : List Int) (k : Nat) (hk : k < xs.length) (h0 : 0 < k) : foldT (xs.take (k + 1)) = stepP (foldT (xs.take k)) (xs.getD k 0) := by
  rw [List.take_succ_eq_append_getElem hk]
  have hg : xs.getD k 0 = xs[k] := by simp [List.getD_eq_getElem?_getD, hk]
  rw [hg]
  cases hx : xs.take k with
  | nil => have := congrArg List.length hx; rw [List.length_take] at this; simp only [List.length_nil] at this; omega
  | cons x r => simp [foldT]
theorem foldT_one (xs : List Int) (hk : 0 < xs.length) : foldT (xs.take 1) = (xs.getD 0 0, xs.getD 0 0 / 2) := by
  cases xs with
  | nil => simp at hk
  | cons x r => simp [foldT]
theorem allAns_get {xs : List Int} (h : allAns xs = true) {k : Nat} (hk : k < xs.length) : inB (xs.getD k 0) 0 10000 = true := by
  have := List.all_eq_true.1 h (xs.getD k 0) (by simp [List.getD_eq_getElem?_getD, hk])
  exact this
theorem allAns_not {xs : List Int} {k : Nat} (hk : k < xs.length) (h : inB (xs.getD k 0) 0 10000 = false) : allAns xs = false := by
  rw [← Bool.not_eq_true]; intro h'; rw [allAns_get h' hk] at h; cases h
theorem allAns_of {xs : List Int} (h : ∀ j, j < xs.length → inB (xs.getD j 0) 0 10000 = true) : allAns xs = true := by
  refine List.all_eq_true.2 fun x hx => ?_
  obtain ⟨j, hj, rfl⟩ := List.mem_iff_getElem.1 hx
  have := h j hj
  simpa [List.getD_eq_getElem?_getD, hj] using this
/-- A timing is the answer; nothing that was there has turned. -/
def RetT (w : World) (t : Int × Int) (e : Ending) (w' : World) : Prop := e = .returned (.agg #[.int .i64 t.1, .int .i64 t.2]) ∧ Below w.heap.size w w'

set_option maxHeartbeats 1000000 in
theorem s_TimingRun (a : Option Addr) (n cap : Nat) (xs : List Int) (w : World) (hxs : xs.length = n) (hn : n ≤ 1048576) (h : Ints w a xs) :
    Calls Try.prog 14 #[.slice a n cap] w (RetT w (runT xs)) := by
  have HX := Lib.hid hxs
  have HI := Lib.hid h
  clear h hxs
  go_enter Try.func14, Try.ntmps14
  go_wp2
  go_loopw [4] (fun i wr => ∃ (k : Nat), k ≤ n ∧ i = .int .i64 k ∧ (∀ j, j < k → inB (xs.getD j 0) 0 10000 = true) ∧ (0 < k → n ≤ 50) ∧ Below w.heap.size w wr ∧ Box wr w.heap.size 26 [.int .i64 0, .int .i64 0] ∧ Box wr (w.heap.size + 1) 26 [.int .i64 (foldT (xs.take k)).1, .int .i64 (foldT (xs.take k)).2]) (fun i _ => n - (intOf i).toNat)
  case atStart =>
    refine ⟨0, Nat.zero_le _, rfl, fun j hj => by omega, fun h => by omega, by go_grown, (Box.new w 26 [_, _]).alloc _, ?_⟩
    have := Box.new (w.alloc (.cells #[.int .i64 0, .int .i64 0] 26)) 26 [.int .i64 0, .int .i64 0]
    simpa [foldT] using this
  case round =>
    obtain ⟨k, hk, rfl, hval, h50, hG, hB0, hB1⟩ := hrel
    have HG := Lib.hid hG
    have HV := Lib.hid hval
    have H5 := Lib.hid h50
    have HB0 := Lib.hid hB0
    have HB1 := Lib.hid hB1
    clear hG hval h50 hB0 hB1
    have r0 := HB0.out.cell 0
    have r1 := HB0.out.cell 1
    have r2 := HB0.out.frozen 0
    have r3 := HB0.out.frozen 1
    have s0 := HB1.out.cell 0
    have s1 := HB1.out.cell 1
    have s2 := HB1.out.frozen 0
    have s3 := HB1.out.frozen 1
    simp only [List.getElem?_cons_zero, List.getElem?_cons_succ] at r0 r1 s0 s1
    by_cases hlt : k < n
    · rcases HI.out with h0 | ⟨b, off, ha, hb, hcell⟩
      · have := HX.out; rw [h0] at this; simp at this; omega
      · have hc1 := (HG.out.cell (p := ⟨b, off + k, none⟩) hb).trans (hcell k (by have := HX.out; omega))
        have hcz := (HG.out.cell (p := ⟨b, off + 0, none⟩) hb).trans (hcell 0 (by have := HX.out; omega))
        have hne : b ≠ w.heap.size + 1 := by omega
        rw [Nat.add_zero] at hcz
        subst ha
        clear hcell
        generalize hxk : xs.getD k 0 = xk at hc1
        generalize hx0 : xs.getD 0 0 = x0 at hcz
        have HXK := Lib.hid hxk
        have HX0 := Lib.hid hx0
        clear hxk hx0
        generalize hF : foldT (xs.take k) = F at s0 s1
        have HF := Lib.hid hF
        clear hF
        have z0 := HG.out.size
        have z1 := HB1.out.lt
        cases hv : inB xk 0 10000
        · go_wp2_with (go_at_call 51; refine (c_l1In _ _ _ _).mono ?_; rintro e w' ⟨rfl, rfl⟩)
          refine bodyPost_ret (v := .agg #[.int .i64 0, .int .i64 0]) (by simp [results, Try.results14, go_sem, r0, r1]) rfl ?_
          have hr : runT xs = (0, 0) := by rw [runT, allAns_not (k := k) (by have := HX.out; omega) (by rw [HXK.out]; exact hv)]; simp
          rw [hr]
          have hq := HG.out
          exact ⟨rfl, by go_grown⟩
        · by_cases h5 : 50 < n
          · have h5' : (50 : Int) < (n : Int) := by omega
            go_wp2_with (go_at_call 51; refine (c_l1In _ _ _ _).mono ?_; rintro e w' ⟨rfl, rfl⟩)
            refine bodyPost_ret (v := .agg #[.int .i64 0, .int .i64 0]) (by simp [results, Try.results14, go_sem, r0, r1]) rfl ?_
            have hr : runT xs = (0, 0) := by rw [runT, decide_eq_false (by have := HX.out; omega)]; simp
            rw [hr]
            have hq := HG.out
            exact ⟨rfl, by go_grown⟩
          · obtain ⟨x1, x2⟩ := inB_true.1 hv
            by_cases hk0 : k = 0
            · subst hk0
              obtain rfl : xk = x0 := HXK.out.symm.trans HX0.out
              rw [Nat.add_zero] at hc1
              clear hcz
              go_wp2_with (go_at_call 51; refine (c_l1In _ _ _ _).mono ?_; rintro e w' ⟨rfl, rfl⟩)
              have u1 : IntKind.i64.wrap (xk.tdiv 2) = xk / 2 := by rw [Int.tdiv_eq_ediv_of_nonneg x1]; exact IntWalk.i64_in _ (by omega)
              go_region_with (fail)
              all_goals
                clear u1
                go_wp2
                go_roundw
                case rel =>
                  refine ⟨1, by omega, rfl, fun j hj => ?_, fun _ => by omega, ?_, ?_, ?_⟩
                  · obtain rfl : j = 0 := by omega
                    rw [HXK.out]; exact hv
                  · have hq := HG.out
                    go_grown
                  · exact ((HB0.out.drew).other (by simp) _).other (by simp) _
                  · rw [foldT_one _ (by have := HX.out; omega), HXK.out]
                    exact (HB1.out.set 0 (.int .i64 xk)).set 1 (.int .i64 (xk / 2))
                case measure => simp [intOf]; omega
            · have hk1 : ((k : Int) == 0) = false := by simp; omega
              go_wp2_with (go_at_call 51; refine (c_l1In _ _ _ _).mono ?_; rintro e w' ⟨rfl, rfl⟩)
              go_region_with (go_at_call 52; refine (s_TimingStep _ _ _ _).mono ?_; rintro e w' ⟨rfl, hb'⟩; have B1 := (HB1.out.drew).keep hb'; have q0 := B1.cell 0; have q1 := B1.cell 1; have q2 := B1.frozen 0; have q3 := B1.frozen 1; simp only [List.getElem?_cons_zero, List.getElem?_cons_succ] at q0 q1)
              all_goals
                go_wp2
                go_roundw
                case rel =>
                  have hq := HG.out
                  have hq2 := Below.step hq.drew hb' (by simp only [World.size_drew]; omega)
                  refine ⟨k + 1, by omega, by go_num, fun j hj => ?_, fun _ => by omega, by go_grown, ?_, ?_⟩
                  · by_cases hjk : j = k
                    · subst hjk; rw [HXK.out]; exact hv
                    · exact HV.out j (by omega)
                  · exact (((HB0.out.drew).keep hb').other (by simp) _).other (by simp) _
                  · rw [foldT_snoc xs k (by have := HX.out; omega) (by omega), HXK.out, HF.out]
                    exact (B1.set 0 (.int .i64 (stepM F.1 F.2 xk))).set 1 (.int .i64 (stepS F.1 F.2 xk))
                case measure => simp [intOf]; omega
    · go_wp2
      refine bodyPost_ret (v := .agg #[.int .i64 (foldT (xs.take k)).1, .int .i64 (foldT (xs.take k)).2]) (by simp [results, Try.results14, go_sem, r0, r1]) rfl ?_
      have hkn : k = n := by omega
      subst hkn
      have hx := HX.out
      subst hx
      have hq := HG.out
      have hr : runT xs = foldT xs := by
        rw [runT, allAns_of HV.out]
        by_cases h0 : 0 < xs.length
        · rw [decide_eq_true (H5.out h0)]; simp
        · cases xs with
          | nil => simp [foldT]
          | cons x r => simp at h0
      rw [hr, List.take_length]
      exact ⟨rfl, by go_grown⟩
end Go.Proofs.Ytdpmlkigmadajaa
