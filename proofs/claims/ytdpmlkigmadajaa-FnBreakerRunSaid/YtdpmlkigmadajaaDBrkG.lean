/- The walks of the laws FnBreakerGood and FnBreakerRun: true for all bytes. No condition. -/
import Derived.Test.YtdpmlkigmadajaaDBrkR
import Derived.Test.YtdpmlkigmadajaaBrkQ
import Derived.Test.YtdpmlkigmadajaaNew
namespace Go.Proofs.Ytdpmlkigmadajaa
open Go.RowKit
theorem good_zero (now most pause : Int) : stepF 0 0 now true most pause = 0 ∧ stepU 0 0 now true most pause = 0 := by
  constructor
  · unfold stepF; split
    · split
      · rfl
      · rfl
    · rfl
  · unfold stepU; split
    · split
      · rfl
      · rfl
    · rfl
theorem c_goodStep (now most pause : Int) (w : World) :
    Calls Try.prog 25 #[.agg #[.int .i64 0, .int .i64 0], .int .i64 now, .bool true, .int .i64 most, .int .i64 pause] w fun e w' => e = .returned (.agg #[.int .i64 0, .int .i64 0]) ∧ Below w.heap.size w w' := by
  have := c_BreakerStep 0 0 now most pause true w
  rwa [(good_zero now most pause).1, (good_zero now most pause).2] at this
theorem runB_len (xs : List Int) (most pause : Int) : (runB xs most pause).length ≤ xs.length := by
  unfold runB
  split
  · rw [bout_len]; exact Nat.le_refl _
  · simp
set_option maxHeartbeats 1000000 in
theorem walkBreakerGood (a : Option Addr) (n cap : Nat) (z : List Int) (w : World) (w0 : IsRow .u8 w a n cap z) :
    Calls Try.prog 5 #[.slice a n cap] w fun e w' => e = .returned (.bool true) ∧ Below w.heap.size w w' := by
  by_cases hbig : 1048576 < n
  · have hb' : (1048576 : Int) < (n : Int) := by omega
    go_enter Try.func5, Try.ntmps5
    go_wp2
    go_ret
    exact ⟨rfl, Below.refl _ _⟩
  have hn' : (n : Int) ≤ 1048576 := by omega
  obtain ⟨hcl, hcap⟩ := w0.caps
  have HC := Lib.hid w0.code
  clear w0 hbig
  go_enter Try.func5, Try.ntmps5
  go_wp2_with fail
  refine (s_DrawBreakerRun a n cap _ hcl hcap HC.out).mono ?_
  rintro e w1 ⟨b, c, xs, most, pause, rfl, hl, hx, m1, m2, u1, u2, ho, b1⟩
  have z1 := b1.size
  have D1 := Lib.hid b1
  have O1 := Lib.hid ho
  clear b1 ho hx
  have hlen := runB_len xs most pause
  go_wp2_with fail
  refine (c_BreakerRun _ _ _ xs most pause _ rfl (by omega) (ownsRow.ints O1.out)).mono ?_; rintro e w2 ⟨ax, cx, rfl, ox, g2⟩
  have z2 := g2.size
  have D2 := Lib.hid (Below.step D1.out (grown_below g2) z1)
  have O2 := Lib.hid (row_kept O1.out g2 (fun k _ => by simp))
  clear g2 ox
  go_wp2_with fail
  refine (s_BreakerRun _ _ _ xs most pause _ rfl (by omega) (ownsRow.ints O2.out)).mono ?_; rintro e w3 ⟨ay, cy, rfl, oy, g3⟩
  have z3 := g3.size
  have D3 := Lib.hid (Below.step D2.out (grown_below g3) (by omega))
  have O3 := Lib.hid (row_kept O2.out g3 (fun k _ => by simp))
  clear g3 oy
  have HI := Lib.hid (ownsRow.ints O3.out)
  obtain ⟨hbl, hbl2⟩ := O3.out.lt b rfl
  go_wp2
  go_loopw [7] (fun i wr => ∃ (k : Nat), k ≤ xs.length ∧ i = .int .i64 k ∧ Box wr w3.heap.size 42 [.int .i64 0, .int .i64 0] ∧ Below w3.heap.size w3 wr) (fun i _ => xs.length - (intOf i).toNat)
  case atStart => exact ⟨0, Nat.zero_le _, rfl, Box.new w3 42 [.int .i64 0, .int .i64 0], by go_grown⟩
  case round =>
    obtain ⟨k, hk, rfl, hbox, hgr⟩ := hrel
    have HB := Lib.hid hbox
    have HG := Lib.hid hgr
    have hz := hgr.size
    have hbl3 := hbox.lt
    clear hbox hgr
    by_cases hlt : k < xs.length
    · rcases HI.out with h0 | ⟨b', off, ha, hb, hcell⟩
      · rw [h0] at hlt; simp at hlt
      injection ha with ha
      injection ha with ha1 ha2
      subst ha1 ha2
      have hc1 := (HG.out.cell (p := ⟨b, 0 + k, none⟩) hb).trans (hcell k hlt)
      rw [Nat.zero_add] at hc1
      have r0 := HB.out.cell 0
      have r1 := HB.out.cell 1
      simp only [List.getElem?_cons_zero, List.getElem?_cons_succ] at r0 r1
      have B1 := Lib.hid (HB.out.drew)
      have k7 := Lib.hid (HG.out.drew)
      clear hcell
      generalize xs.getD k 0 = x at *
      go_wp2_with fail
      go_region_with (go_at_call 25; refine (c_goodStep _ _ _ _).mono ?_; rintro e w6 ⟨rfl, hb6⟩; have B7 := Lib.hid (B1.out.keep hb6); have q0 := B7.out.cell 0; have q1 := B7.out.cell 1; have q2 := B7.out.frozen 0; have q3' := B7.out.frozen 1; simp only [List.getElem?_cons_zero, List.getElem?_cons_succ] at q0 q1; have kk8 := Lib.hid (Below.step k7.out hb6 k7.out.size); clear hb6)
      all_goals
        go_wp2
        go_roundw
        case rel =>
          refine ⟨k + 1, by omega, by go_num, ?_, (kk8.out.setCell (by simp) _).setCell (by simp) _⟩
          exact (B7.out.set 0 (.int .i64 0)).set 1 (.int .i64 0)
        case measure => simp [intOf]; omega
    · go_wp2_with fail
      refine (c_alive _).mono ?_; rintro e w6 ⟨rfl, b6⟩
      have Q6 := Below.step (Below.step D3.out HG.out (by omega)) b6 (by omega)
      go_wp2_with fail
      go_ret
      exact ⟨rfl, Q6⟩
/-- What the breaker knows of the calls that were allowed. -/
def BInv (f u most pause many last : Int) : Prop :=
  0 ≤ many ∧ f = min many 100 ∧ 0 ≤ last ∧ last ≤ 100000 ∧ (many < most → u = 0) ∧ (most ≤ many → u = last + pause)
theorem binv_step {f u most pause many last x : Int} (hm : inB most 1 100 = true) (hp : inB pause 1 100000 = true) (hx : inB x 0 100000 = true) (h : BInv f u most pause many last) :
    (allowsB f u x = false → stepF f u x false most pause = f ∧ stepU f u x false most pause = u ∧ most ≤ many) ∧
    (allowsB f u x = true → BInv (stepF f u x false most pause) (stepU f u x false most pause) most pause (many + 1) x ∧ (most ≤ many → pause ≤ x - last)) := by
  obtain ⟨h1, h2, h3, h4, h5, h6⟩ := h
  have hm' := inB_true.1 hm
  have hp' := inB_true.1 hp
  have hx' := inB_true.1 hx
  have hu : 0 ≤ u ∧ u ≤ 200000 := by
    rcases Int.lt_or_le many most with h | h
    · have := h5 h; omega
    · have := h6 h; omega
  have hbv : bv f u = true := by
    simp only [bv, Bool.and_eq_true, inB_true]; omega
  have hs : stepOk f u x most pause = true := by simp [stepOk, hbv, hm, hp, hx]
  refine ⟨fun ha => ?_, fun ha => ?_⟩
  · have hlt : x < u := by
      simp only [allowsB, hbv, hx, Bool.true_and, decide_eq_false_iff_not] at ha; omega
    refine ⟨by simp [stepF, hs, hlt], by simp [stepU, hs, hlt], ?_⟩
    rcases Int.lt_or_le many most with h | h
    · have := h5 h; omega
    · exact h
  · have hle : ¬ x < u := by
      simp only [allowsB, hbv, hx, Bool.true_and, decide_eq_true_eq] at ha; omega
    have e1 : stepF f u x false most pause = min (f + 1) 100 := by simp [stepF, hs, hle]
    have e2 : stepU f u x false most pause = if most ≤ min (f + 1) 100 then x + pause else u := by simp [stepU, hs, hle]
    rw [e1, e2]
    refine ⟨⟨by omega, by omega, by omega, by omega, fun h => ?_, fun h => ?_⟩, fun h => ?_⟩
    · rw [if_neg (by omega)]; exact h5 (by omega)
    · rw [if_pos (by omega)]
    · have := h6 h; omega
theorem runB_get {xs : List Int} {most pause : Int} {k : Nat} (h : k < (runB xs most pause).length) :
    runOk xs most pause = true ∧ k < xs.length ∧ (runB xs most pause).getD k false = allowsB (bst xs most pause k).1 (bst xs most pause k).2 (xs.getD k 0) ∧ inB (xs.getD k 0) 0 100000 = true ∧ inB most 1 100 = true ∧ inB pause 1 100000 = true := by
  unfold runB at h ⊢
  cases hr : runOk xs most pause
  · rw [hr] at h; simp at h
  · rw [hr] at h
    simp only [if_true, bout_len] at h
    have hr2 := hr
    simp only [runOk, Bool.and_eq_true, decide_eq_true_eq, List.all_eq_true, List.mem_range] at hr2
    obtain ⟨⟨⟨h1, h2⟩, h3⟩, h4⟩ := hr2
    have h5 := h4 k h
    simp only [tmOk, Bool.and_eq_true] at h5
    refine ⟨rfl, h, ?_, h5.1, h2, h3⟩
    simp [bout, List.getD_eq_getElem?_getD, h]
end Go.Proofs.Ytdpmlkigmadajaa
