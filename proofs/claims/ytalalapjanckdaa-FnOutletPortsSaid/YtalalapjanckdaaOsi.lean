/- Contracts of sameOutlet, TurnFlow and SendIn. No condition but what each theorem says. -/
import Derived.Test.YtalalapjanckdaaOpl
import Derived.Test.YtalalapjanckdaaMB
namespace Go.Proofs.Ytalalapjanckdaa
open Go.RowKit
def turnV (f : F5) : F5 := (f.2.2.1, f.2.2.2.1, f.1, f.2.1, f.2.2.2.2)
set_option maxHeartbeats 1000000 in
theorem c_turned (f : F5) (w : World) : Calls Try.prog 62 #[fvv f] w fun e w' => e = .returned (fvv (turnV f)) ∧ Below w.heap.size w w' := by
  obtain ⟨y0, y1, y2, y3, y4⟩ := f
  unfold fvv turnV
  obtain ⟨w1, hw1, b1, s1, x1, x2⟩ := headB w 27 27 [.int .i64 y0, .int .i64 y1, .int .i64 y2, .int .i64 y3, .int .i64 y4] [.int .i64 0, .int .i64 0, .int .i64 0, .int .i64 0, .int .i64 0]
  have HW1 := Lib.hid hw1
  have D1 := Lib.hid b1
  have P1 := Lib.hid x1
  have Q1 := Lib.hid x2
  clear hw1 b1 x1 x2
  go_enter Try.func62, Try.ntmps62
  go_upto_region 1 with fail
  rw [← HW1.out]
  obtain ⟨c0, c1, c2, c3, c4, cf⟩ := P1.out.five
  obtain ⟨d0, d1, d2, d3, d4, df⟩ := Q1.out.five
  have hne : ¬ w.heap.size = w.heap.size + 1 := by omega
  go_wp2
  refine bodyPost_ret (v := .agg #[.int .i64 y2, .int .i64 y3, .int .i64 y0, .int .i64 y1, .int .i64 y4]) (by simp [results, Try.results62, go_sem, d0, d1, d2, d3, d4]) rfl ?_
  exact ⟨rfl, ((((D1.out.setCell (Nat.le_add_right _ _) _).setCell (Nat.le_add_right _ _) _).setCell (Nat.le_add_right _ _) _).setCell (Nat.le_add_right _ _) _).setCell (Nat.le_add_right _ _) _⟩
set_option maxHeartbeats 1000000 in
theorem c_TurnFlow (f : F5) (w : World) (hf : fv f = true) : Calls Try.prog 25 #[fvv f] w fun e w' => e = .returned (fvv (turnV f)) ∧ Below w.heap.size w w' := by
  obtain ⟨y0, y1, y2, y3, y4⟩ := f
  unfold fvv
  obtain ⟨w1, hw1, b1, s1, x1, x2⟩ := headB w 27 27 [.int .i64 y0, .int .i64 y1, .int .i64 y2, .int .i64 y3, .int .i64 y4] [.int .i64 0, .int .i64 0, .int .i64 0, .int .i64 0, .int .i64 0]
  have HW1 := Lib.hid hw1
  have D1 := Lib.hid b1
  have P1 := Lib.hid x1
  have Q1 := Lib.hid x2
  have HF := Lib.hid hf
  clear hw1 b1 x1 x2 hf
  go_enter Try.func25, Try.ntmps25
  go_wp2_with fail
  rw [← HW1.out]
  refine (c_FlowValid (y0, y1, y2, y3, y4) _).mono ?_; rintro e w2 ⟨rfl, b2⟩
  have D2 := Lib.hid (Below.step D1.out b2 (by omega))
  have P2 := Lib.hid (P1.out.keep b2)
  have Q2 := Lib.hid (Q1.out.keep b2)
  have z2 := b2.size
  clear b2
  rw [HF.out]
  obtain ⟨c0, c1, c2, c3, c4, cf⟩ := P2.out.five
  go_wp2_with fail
  refine (c_turned (y0, y1, y2, y3, y4) _).mono ?_; rintro e w3 ⟨rfl, b3⟩
  have D3 := Lib.hid (Below.step D2.out b3 (by omega))
  have Q3 := Lib.hid (Q2.out.keep b3)
  clear b3 c0 c1 c2 c3 c4 cf
  unfold turnV fvv
  dsimp only
  obtain ⟨d0, d1, d2, d3, d4, df⟩ := Q3.out.five
  go_wp2
  refine bodyPost_ret (v := .agg #[.int .i64 y2, .int .i64 y3, .int .i64 y0, .int .i64 y1, .int .i64 y4]) (by simp [results, Try.results25, go_sem, d0, d1, d2, d3, d4]) rfl ?_
  exact ⟨rfl, ((((D3.out.setCell (Nat.le_add_right _ _) _).setCell (Nat.le_add_right _ _) _).setCell (Nat.le_add_right _ _) _).setCell (Nat.le_add_right _ _) _).setCell (Nat.le_add_right _ _) _⟩
set_option maxHeartbeats 4000000 in
theorem c_SendIn (N R : Int) (k : Nat) (a : Option Addr) (n cap : Nat) (fs : List F5) (w : World) (hxs : fs.length = n) (hv : ov N R fs = true) (hk : k < n) (hz : fs.getD k z5 ≠ z5) (h : Flws w a fs) :
    Calls Try.prog 24 #[.agg #[.int .i64 N, .int .i64 R, .slice a n cap], fvv (turnV (outF N R k (fs.getD k z5)))] w fun e w' => e = .returned (.tuple #[fvv (turnV (fs.getD k z5)), .bool true]) ∧ Below w.heap.size w w' := by
  have hV := ov_OV hv
  have hf := (hV.good k (by omega)).resolve_left hz
  have h1 := inB_true.1 hV.out
  have h2 := inB_true.1 hV.len
  have h3 := inB_true.1 hV.first
  rw [hxs] at h2 h3
  obtain ⟨b, off, rfl, hbl, hc⟩ := h.at hxs hk
  have HC := Lib.hid (hc k hk)
  generalize hE : fs.getD k z5 = E at *
  obtain ⟨x0, x1, x2, x3, x4⟩ := E
  have hp := hf
  simp only [fv, Bool.and_eq_true] at hp
  obtain ⟨⟨⟨⟨p0, p2⟩, p1⟩, p3⟩, p4⟩ := hp
  have hft : fv (x2, x3, N, R + (k : Int), x4) = true := by
    simp only [fv, Bool.and_eq_true]
    exact ⟨⟨⟨⟨p2, hV.out⟩, p3⟩, inB_true.2 ⟨by omega, by omega⟩⟩, p4⟩
  unfold turnV outF fvv
  dsimp only
  obtain ⟨w1, hw1, b1, s1, y1, y2, y3⟩ := head3 w 25 27 27 [.int .i64 N, .int .i64 R, .slice (some ⟨b, off, none⟩) n cap] [.int .i64 x2, .int .i64 x3, .int .i64 N, .int .i64 (R + (k : Int)), .int .i64 x4] [.int .i64 0, .int .i64 0, .int .i64 0, .int .i64 0, .int .i64 0]
  have HW1 := Lib.hid hw1
  have D1 := Lib.hid b1
  have P1 := Lib.hid y1
  have Q1 := Lib.hid y2
  have S1 := Lib.hid y3
  have HV := Lib.hid hv
  have HFT := Lib.hid hft
  have HX := Lib.hid hxs
  have HI := Lib.hid h
  have hn20 : n ≤ 1048576 := by omega
  clear hw1 b1 y1 y2 y3 hv hft hV hf p0 p1 p2 p3 p4 hE hc hxs h
  go_enter Try.func24, Try.ntmps24
  go_wp2_with fail
  rw [← HW1.out]
  refine (c_OutletValid N R (some ⟨b, off, none⟩) n cap fs _ HX.out hn20 (HI.out.below D1.out)).mono ?_; rintro e w2 ⟨rfl, b2⟩
  have D2 := Lib.hid (Below.step D1.out b2 (by omega))
  have P2 := Lib.hid (P1.out.keep b2)
  have Q2 := Lib.hid (Q1.out.keep b2)
  have S2 := Lib.hid (S1.out.keep b2)
  have z2 := b2.size
  clear b2 D1 P1 Q1 S1
  rw [HV.out]
  obtain ⟨c0, c1, c2, cf⟩ := P2.out.three
  obtain ⟨d0, d1, d2, d3, d4, df⟩ := Q2.out.five
  go_wp2_with fail
  refine (c_FlowValid (x2, x3, N, R + (k : Int), x4) _).mono ?_; rintro e w3 ⟨rfl, b3⟩
  have D3 := Lib.hid (Below.step D2.out b3 (by omega))
  have P3 := Lib.hid (P2.out.keep b3)
  have Q3 := Lib.hid (Q2.out.keep b3)
  have S3 := Lib.hid (S2.out.keep b3)
  have z3 := b3.size
  clear b3 D2 P2 Q2 S2 c0 c1 c2 cf d0 d1 d2 d3 d4 df
  rw [HFT.out]
  obtain ⟨c0, c1, c2, cf⟩ := P3.out.three
  obtain ⟨d0, d1, d2, d3, d4, df⟩ := Q3.out.five
  have hw9 : IntKind.i64.wrap (R + (k : Int) - R) = (k : Int) := by
    rw [show R + (k : Int) - R = (k : Int) by omega]; exact IntWalk.i64_in _ (by omega)
  have hk1 : ¬ (k : Int) < 0 := by omega
  have hk2 : ¬ (n : Int) ≤ (k : Int) := by omega
  have hk3 : (k : Int) < (n : Int) := by omega
  obtain ⟨e0, e1, e2, e3, e4⟩ := HC.out
  have q0 := (D3.out.cell (p := ⟨b, off + k * 5, none⟩) hbl).trans e0
  have q1 := (D3.out.cell (p := ⟨b, off + k * 5 + 1, none⟩) hbl).trans e1
  have q2 := (D3.out.cell (p := ⟨b, off + k * 5 + 2, none⟩) hbl).trans e2
  have q3 := (D3.out.cell (p := ⟨b, off + k * 5 + 3, none⟩) hbl).trans e3
  have q4 := (D3.out.cell (p := ⟨b, off + k * 5 + 4, none⟩) hbl).trans e4
  have hqe : ∀ w, (binOp .eql 27 (.agg #[.int .i64 x0, .int .i64 x1, .int .i64 x2, .int .i64 x3, .int .i64 x4]) (.agg #[.int .i64 0, .int .i64 0, .int .i64 0, .int .i64 0, .int .i64 0])).run Try.prog w = .ok (.bool false) w := eqlF_no' hz
  clear e0 e1 e2 e3 e4 HC hz
  go_upto_region 7 with fail
  obtain ⟨w4, hw4, b4, s4, y4⟩ := head1 w3 27 [.int .i64 x0, .int .i64 x1, .int .i64 x2, .int .i64 x3, .int .i64 x4]
  rw [← hw4]
  have D4 := Lib.hid (Below.step D3.out b4 (by omega))
  have Q4 := Lib.hid (Q3.out.keep b4)
  have S4 := Lib.hid (S3.out.keep b4)
  have E4 := Lib.hid y4
  clear hw4 b4 y4 D3 P3 Q3 S3 q0 q1 q2 q3 q4 c0 c1 c2 cf d0 d1 d2 d3 d4 df
  obtain ⟨d0, d1, d2, d3, d4, df⟩ := Q4.out.five
  obtain ⟨e0, e1, e2, e3, e4, ef⟩ := E4.out.five
  go_wp2_with fail
  refine (c_turned (x0, x1, x2, x3, x4) _).mono ?_; rintro e w5 ⟨rfl, b5⟩
  have D5 := Lib.hid (Below.step D4.out b5 (by omega))
  have S5 := Lib.hid (S4.out.keep b5)
  clear b5 d0 d1 d2 d3 d4 df e0 e1 e2 e3 e4 ef D4 S4 Q4 E4
  unfold turnV fvv
  dsimp only
  obtain ⟨d0, d1, d2, d3, d4, df⟩ := S5.out.five
  go_wp2
  refine bodyPost_ret (v := .tuple #[.agg #[.int .i64 x2, .int .i64 x3, .int .i64 x0, .int .i64 x1, .int .i64 x4], .bool true]) (by simp [results, Try.results24, go_sem, d0, d1, d2, d3, d4]) rfl ?_
  exact ⟨rfl, ((((D5.out.setCell (Nat.le_add_right w.heap.size 2) _).setCell (Nat.le_add_right w.heap.size 2) _).setCell (Nat.le_add_right w.heap.size 2) _).setCell (Nat.le_add_right w.heap.size 2) _).setCell (Nat.le_add_right w.heap.size 2) _⟩
set_option maxHeartbeats 4000000 in
theorem c_sameOutlet (N R : Int) (a b : Option Addr) (n ca cb : Nat) (es : List F5) (w : World) (hxs : es.length = n) (hn : n ≤ 1048576) (ha : Flws w a es) (hb : Flws w b es) :
    Calls Try.prog 14 #[.agg #[.int .i64 N, .int .i64 R, .slice a n ca], .agg #[.int .i64 N, .int .i64 R, .slice b n cb]] w fun e w' => e = .returned (.bool true) ∧ Below w.heap.size w w' := by
  have HX := Lib.hid hxs
  have HA := Lib.hid ha
  have HB := Lib.hid hb
  clear hxs ha hb
  go_enter Try.func14, Try.ntmps14
  go_wp2
  go_loopw [5] (fun i wr => ∃ (k : Nat), k ≤ n ∧ i = .int .i64 k ∧ Below w.heap.size w wr ∧ Box wr w.heap.size 25 [.int .i64 N, .int .i64 R, .slice a n ca] ∧ Box wr (w.heap.size + 1) 25 [.int .i64 N, .int .i64 R, .slice b n cb]) (fun i _ => n - (intOf i).toNat)
  case atStart => exact ⟨0, Nat.zero_le _, rfl, ((Below.refl _ _).alloc (Nat.le_refl _) _).alloc (by simp) _, (Box.new _ _ _).alloc _, Box.new2 _ _ _ _ (by simp)⟩
  case round =>
    obtain ⟨k, hk, rfl, hG, hP, hQ⟩ := hrel
    have HG := Lib.hid hG
    have HP := Lib.hid hP
    have HQ := Lib.hid hQ
    clear hG hP hQ
    obtain ⟨s0, s1, s2, sf⟩ := HP.out.three
    obtain ⟨t0, t1, t2, tf⟩ := HQ.out.three
    by_cases hlt : k < n
    · obtain ⟨b1, off1, rfl, _, hc1⟩ := (HA.out.below HG.out).at HX.out hlt
      obtain ⟨b2, off2, rfl, _, hc2⟩ := (HB.out.below HG.out).at HX.out hlt
      obtain ⟨c0, c1, c2, c3, c4⟩ := hc1 k hlt
      obtain ⟨d0, d1, d2, d3, d4⟩ := hc2 k hlt
      clear hc1 hc2
      generalize es.getD k z5 = E at *
      obtain ⟨x0, x1, x2, x3, x4⟩ := E
      dsimp only at c0 c1 c2 c3 c4 d0 d1 d2 d3 d4
      have hne := neqF_no' (x0 := x0) (x1 := x1) (x2 := x2) (x3 := x3) (x4 := x4) (y0 := x0) (y1 := x1) (y2 := x2) (y3 := x3) (y4 := x4) rfl
      go_wp2
      go_quiet (fail)
      go_wp2
      go_roundw
      case rel => exact ⟨k + 1, by omega, by go_num, below_drewN HG.out _, HP.out.drewN _, HQ.out.drewN _⟩
      case measure => simp [intOf]; omega
    · go_wp2
      go_ret
      exact ⟨rfl, HG.out⟩
set_option maxHeartbeats 1000000 in
/-- An outlet without slots is not one with slots. -/
theorem c_sameOutlet_no (N R : Int) (a b : Option Addr) (n ca cb : Nat) (w : World) (hn : 1 ≤ n) :
    Calls Try.prog 14 #[.agg #[.int .i64 0, .int .i64 0, .slice a 0 ca], .agg #[.int .i64 N, .int .i64 R, .slice b n cb]] w fun e w' => e = .returned (.bool false) ∧ Below w.heap.size w w' := by
  have HG : Hid (Below w.heap.size w ((w.alloc (.cells #[.int .i64 0, .int .i64 0, .slice a 0 ca] 25)).alloc (.cells #[.int .i64 N, .int .i64 R, .slice b n cb] 25))) := Lib.hid (((Below.refl _ _).alloc (Nat.le_refl _) _).alloc (by simp) _)
  have hn0 : ¬ (0 : Int) = (n : Int) := by omega
  have hn1 : ¬ n = 0 := by omega
  by_cases h0 : (0 : Int) = N
  · subst h0
    by_cases h1 : (0 : Int) = R
    · subst h1
      go_enter Try.func14, Try.ntmps14
      go_wp2
      go_ret
      exact ⟨rfl, HG.out⟩
    · go_enter Try.func14, Try.ntmps14
      go_wp2
      go_ret
      exact ⟨rfl, HG.out⟩
  · go_enter Try.func14, Try.ntmps14
    go_wp2
    go_ret
    exact ⟨rfl, HG.out⟩
end Go.Proofs.Ytalalapjanckdaa
