/- OutletValid of the program. No condition but lists of at most 2^20 flows. -/
import Derived.Test.YtalalapjanckdaaOutA
namespace Go.Proofs.Ytalalapjanckdaa
open Go.RowKit
theorem below_rw {w0 w1 w2 : World} {b : Nat} (h : Below w0.heap.size w0 w1) (hg : w1.grownBy w2 (some b)) (hb : w0.heap.size ≤ b) : Below w0.heap.size w0 w2 :=
  h.grown hg h.size (fun g hg => by cases hg; exact hb)
set_option maxRecDepth 100000 in
set_option maxHeartbeats 8000000 in
theorem c_OutletValid (o r : Int) (a : Option Addr) (n cap : Nat) (fs : List F5) (w : World) (hxs : fs.length = n) (hn : n ≤ 1048576) (h : Flws w a fs) :
    Calls Try.prog 26 #[.agg #[.int .i64 o, .int .i64 r, .slice a n cap]] w fun e w' => e = .returned (.bool (ov o r fs)) ∧ Below w.heap.size w w' := by
  have HX := Lib.hid hxs
  have HI := Lib.hid h
  clear h hxs
  have g0 : Below w.heap.size w (w.alloc (.cells #[.int .i64 o, .int .i64 r, .slice a n cap] 25)) := (Below.refl _ _).alloc (Nat.le_refl _) _
  have HG0 := Lib.hid g0
  clear g0
  have HQ : Hid (ov o r fs = (inB o 0 255 && inB (n : Int) 1 8 && inB r 0 (999 - (n : Int) + 1) && (List.range fs.length).all (oOk fs))) := Lib.hid (by rw [ov, HX.out])
  have hi0 : IntKind.i64.wrap (999 - (n : Int)) = 999 - (n : Int) := IntWalk.i64_in _ (by omega)
  have hi1 : IntKind.i64.wrap (999 - (n : Int) + 1) = 999 - (n : Int) + 1 := IntWalk.i64_in _ (by omega)
  cases h1 : inB o 0 255
  · go_enter Try.func26, Try.ntmps26
    go_wp2_with (go_at_call 63; refine (c_in _ _ _ _).mono ?_; rintro e w' ⟨rfl, rfl⟩)
    go_ret
    exact ⟨ret_bool (by rw [HQ.out, h1]; rfl), HG0.out⟩
  cases h2 : inB (n : Int) 1 8
  · go_enter Try.func26, Try.ntmps26
    go_wp2_with (go_at_call 63; refine (c_in _ _ _ _).mono ?_; rintro e w' ⟨rfl, rfl⟩)
    go_ret
    exact ⟨ret_bool (by rw [HQ.out, h1, h2]; rfl), HG0.out⟩
  cases h3 : inB r 0 (999 - (n : Int) + 1)
  · go_enter Try.func26, Try.ntmps26
    go_wp2_with (go_at_call 63; refine (c_in _ _ _ _).mono ?_; rintro e w' ⟨rfl, rfl⟩)
    go_ret
    exact ⟨ret_bool (by rw [HQ.out, h1, h2, h3]; rfl), HG0.out⟩
  have HQ2 : Hid ((inB o 0 255 && inB (fs.length : Int) 1 8 && inB r 0 (999 - (fs.length : Int) + 1)) = true) := Lib.hid (by rw [HX.out, h1, h2, h3]; rfl)
  have hmm := @run_makeMap Try.prog
  go_enter Try.func26, Try.ntmps26
  go_wp2_with (go_at_call 63; refine (c_in _ _ _ _).mono ?_; rintro e w' ⟨rfl, rfl⟩)
  clear HG0 HQ hmm
  go_loopw [32] (fun i wr => ∃ (k m : Nat), k ≤ n ∧ m ≤ k ∧ i = .int .i64 k ∧ Below w.heap.size w wr ∧ Box wr w.heap.size 25 [.int .i64 o, .int .i64 r, .slice a n cap] ∧ Seen wr (w.heap.size + 1) m (busy (fs.take k)) ∧ Hid (∀ j, j < k → oOk fs j = true)) (fun i _ => n - (intOf i).toNat)
  case atStart =>
    refine ⟨0, 0, Nat.zero_le _, Nat.le_refl _, rfl, by go_grown, (Box.new _ _ _).alloc _, ?_, Lib.hid fun j hj => by omega⟩
    have := Seen.made (w.alloc (.cells #[.int .i64 o, .int .i64 r, .slice a n cap] 25))
    rwa [World.size_alloc] at this
  case round =>
    obtain ⟨k, m, hk, hmk, rfl, hG, hB, hS, HV⟩ := hrel
    have HG := Lib.hid hG
    have HBX := Lib.hid hB
    have HSN := Lib.hid hS
    have hz := hG.size
    have hsz : w.heap.size + 1 < wr.heap.size := hS.lt
    clear hG hB hS
    by_cases hlt : k < n
    · obtain ⟨b, off, rfl, hb, hc⟩ := (HI.out.below HG.out).at HX.out hlt
      obtain ⟨c0, c1, c2, c3, c4⟩ := hc k hlt
      have HT : Hid (oOk fs k = (decide (fs.getD k z5 = z5) || (fv (fs.getD k z5) && !(decide (fs.getD k z5 ∈ fs.take k))))) := Lib.hid rfl
      have HSK := Lib.hid (fun h => busy_skip (fs := fs) HX.out hlt h)
      have HMO := Lib.hid (fun h => busy_more (fs := fs) HX.out hlt h)
      clear hc
      generalize fs.getD k z5 = E at *
      obtain ⟨x0, x1, x2, x3, x4⟩ := E
      dsimp only at c0 c1 c2 c3 c4
      have hz2 : w.heap.size ≤ (wr.alloc (.cells #[.int .i64 x0, .int .i64 x1, .int .i64 x2, .int .i64 x3, .int .i64 x4] 27)).heap.size := by simp; omega
      have HGood : Hid (oOk fs k = true → ∀ j, j < k + 1 → oOk fs j = true) := Lib.hid (fun h j hj => by
        by_cases hjk : j = k
        · subst hjk; exact h
        · exact HV.out j (by omega))
      have HBad : Hid (oOk fs k = false → ov o r fs = false) := Lib.hid (fun h => ov_not (by rw [HX.out]; exact hlt) h)
      obtain ⟨W, hW, gW, sW, bW⟩ := head1 wr 27 [.int .i64 x0, .int .i64 x1, .int .i64 x2, .int .i64 x3, .int .i64 x4]
      have HW := Lib.hid hW
      have HG2 := Lib.hid (Below.step HG.out gW hz)
      have HBX2 := Lib.hid (HBX.out.keep gW)
      have HSN2 := Lib.hid (HSN.out.below gW)
      have HS2 := Lib.hid sW
      have HF2 := Lib.hid bW
      clear hW gW sW bW
      by_cases hzz : ((x0, x1, x2, x3, x4) : F5) = z5
      · have hqe := eqlF_yes' (y0 := 0) (y1 := 0) (y2 := 0) (y3 := 0) (y4 := 0) hzz
        have HSK2 := Lib.hid (HSK.out hzz)
        have HV2 := Lib.hid (HGood.out (by rw [HT.out, decide_eq_true hzz]; rfl))
        clear hzz HSK HMO HT HGood HBad
        go_wp2_with fail
        rw [← HW.out]
        go_roundw
        case rel => exact ⟨k + 1, m, by omega, by omega, by go_num, HG2.out, HBX2.out, by rw [HSK2.out]; exact HSN2.out, HV2⟩
        case measure => simp [intOf]; omega
      have hqe := eqlF_no' (y0 := 0) (y1 := 0) (y2 := 0) (y3 := 0) (y4 := 0) hzz
      have HMO2 := Lib.hid (HMO.out hzz)
      have HT2 := Lib.hid (HT.out.trans (by rw [decide_eq_false hzz, Bool.false_or]))
      have HNZ := Lib.hid hzz
      clear HT HSK HMO hzz
      go_wp2_with fail
      rw [← HW.out]
      (refine (c_FlowValid (x0, x1, x2, x3, x4) _).mono ?_)
      rintro e w6 ⟨rfl, b6⟩
      have HG6 := Lib.hid (Below.step HG2.out b6 (by rw [HS2.out]; omega))
      have HBX6 := Lib.hid (HBX2.out.keep b6)
      have HSN6 := Lib.hid (HSN2.out.below b6)
      have hz6 := b6.size
      rw [HS2.out] at hz6
      obtain ⟨q0, q1, q2, q3, q4, qf⟩ := (HF2.out.keep b6).five
      clear b6 HG2 HBX2 HSN2 HS2 HF2 HW c0 c1 c2 c3 c4
      cases h5 : fv (x0, x1, x2, x3, x4)
      · have HR := Lib.hid (HBad.out (by rw [HT2.out, h5]; rfl))
        clear HBad HGood HT2
        go_wp2
        go_ret
        exact ⟨ret_bool HR.out.symm, HG6.out⟩
      have HFV := Lib.hid h5
      rw [h5, Bool.true_and] at HT2
      by_cases h6 : ((x0, x1, x2, x3, x4) : F5) ∈ fs.take k
      · have hlk := HSN6.out.look h5
        rw [decide_eq_true ((busy_mem HNZ.out).2 h6)] at hlk
        unfold fvv at hlk
        have HR := Lib.hid (HBad.out (by rw [HT2.out, decide_eq_true h6]; rfl))
        clear HBad HGood HT2 h6 h5
        go_wp2
        go_ret
        exact ⟨ret_bool HR.out.symm, HG6.out⟩
      have hlk := HSN6.out.look h5
      rw [decide_eq_false (fun h => h6 ((busy_mem HNZ.out).1 h))] at hlk
      unfold fvv at hlk
      have HV2 := Lib.hid (HGood.out (by rw [HT2.out, decide_eq_false h6]; rfl))
      have hlt6 := HSN6.out.lt
      clear HBad HGood HT2 h6 h5
      go_wp2_with (at_mapUpdate; refine wpl_seen _ rfl _ _ _ rfl (w.heap.size + 1) m _ rfl HSN6.out (by unfold maxLen; omega) (x0, x1, x2, x3, x4) HFV.out rfl rfl ?_)
      intro w7 hs7 hg7
      have HS7 := Lib.hid hs7
      have HG7 := Lib.hid hg7
      clear hs7 hg7
      go_wp2
      go_roundw
      case rel => exact ⟨k + 1, m + 1, by omega, by omega, by go_num, below_rw HG6.out HG7.out (by omega), HBX6.out.kept HG7.out (by simp), by rw [HMO2.out]; exact HS7.out, HV2⟩
      case measure => simp [intOf]; omega
    · obtain rfl : k = n := by omega
      have HR := Lib.hid (ov_of (o := o) (r := r) (fs := fs) (by rw [HX.out]; exact HV.out))
      go_wp2
      go_ret
      exact ⟨ret_bool (by rw [HR.out, HQ2.out]), HG.out⟩
end Go.Proofs.Ytalalapjanckdaa
