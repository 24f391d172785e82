/- Contract of the reference's ReceiverValid. No condition but lists of at most 2^20 numbers. -/
import Derived.Test.YtalalapjanckdaaRcvV
namespace Go.Proofs.Ytalalapjanckdaa
open Go.RowKit
set_option maxHeartbeats 1000000 in
theorem s_RV_bad (N R : Int) (a : Option Addr) (n cap : Nat) (xs : List Int) (w : World) (hxs : xs.length = n) (hn : n ≤ 1048576) (h : Ints w a xs) (hbad : inB N 0 100000 = false ∨ inB R 1 10 = false) :
    Calls Try.prog 69 #[.agg #[.int .i64 N, .int .i64 R, .slice a n cap]] w fun e w' => e = .returned (.bool (rv N R xs)) ∧ Below w.heap.size w w' := by
  have HX := Lib.hid hxs
  have HG : Hid (Below w.heap.size w (w.alloc (.cells #[.int .i64 N, .int .i64 R, .slice a n cap] 52))) := Lib.hid ((Below.refl _ _).alloc (Nat.le_refl _) _)
  have HI := Lib.hid (h.below HG.out)
  have HBx : Hid (Box (w.alloc (.cells #[.int .i64 N, .int .i64 R, .slice a n cap] 52)) w.heap.size 52 [.int .i64 N, .int .i64 R, .slice a n cap]) := Lib.hid (Box.new _ _ _)
  have HR := Lib.hid (rv_out (N := N) (R := R) (hs := xs) hbad)
  have HB := Lib.hid hbad
  clear h hxs hbad
  obtain ⟨N1, hN1⟩ : ∃ N1, IntKind.i64.wrap (N + 1) = N1 := ⟨_, rfl⟩
  obtain ⟨M1, hM1⟩ : ∃ M1, IntKind.i64.wrap (N + R) = M1 := ⟨_, rfl⟩
  obtain ⟨N2, hN2⟩ : ∃ N2, IntKind.i64.wrap (M1 - 1) = N2 := ⟨_, rfl⟩
  have HN1 := Lib.hid hN1
  have HM1 := Lib.hid hM1
  have HN2 := Lib.hid hN2
  clear hN1 hM1 hN2
  go_enter Try.func69, Try.ntmps69
  go_wp2
  go_loopw [3] (fun i wr => ∃ (k : Nat), k ≤ n ∧ i = .int .i64 k ∧ Below (w.heap.size + 1) (w.alloc (.cells #[.int .i64 N, .int .i64 R, .slice a n cap] 52)) wr) (fun i _ => n - (intOf i).toNat)
  case atStart => exact ⟨0, Nat.zero_le _, rfl, Below.refl _ _⟩
  case round =>
    obtain ⟨k, hk, rfl, hGr⟩ := hrel
    have hGr' : Below (w.alloc (.cells #[.int .i64 N, .int .i64 R, .slice a n cap] 52)).heap.size (w.alloc (.cells #[.int .i64 N, .int .i64 R, .slice a n cap] 52)) wr := by simpa using hGr
    obtain ⟨x0, x1, x2, fx⟩ := (HBx.out.keep hGr').three
    have HIr := Lib.hid (HI.out.below hGr')
    have HGr := Lib.hid (HG.out.trans (hGr.mono (by omega)))
    have HGk := Lib.hid hGr
    clear hGr hGr' fx
    by_cases hlt : k < n
    · obtain ⟨b, off, rfl, hb, hc⟩ := HIr.out.at HX.out hlt
      have c0 := hc k hlt
      have hcp := Lib.hid (fun (_ : 0 < k) => hc (k - 1) (by omega))
      clear hc
      have hN1 := HN1.out
      have hM1 := HM1.out
      have hN2 := HN2.out
      generalize xs.getD k 0 = x at *
      cases g1 : inB x N1 N2
      · go_wp2
        go_quiet ((go_at_call 73; exact Calls.quiet_of_same (q_l1In' _ _ _ _)))
        go_wp2
        go_ret
        exact ⟨ret_bool HR.out.symm, below_drewN HGr.out _⟩
      by_cases hk0 : k = 0
      · have hk1 : decide (0 < k) = false := by simp; omega
        clear hk0
        go_wp2
        go_quiet ((go_at_call 73; exact Calls.quiet_of_same (q_l1In' _ _ _ _)))
        go_wp2
        go_roundw
        case rel => exact ⟨k + 1, by omega, by go_num, below_drewN HGk.out _⟩
        case measure => simp [intOf]; omega
      · have hk1 : decide (0 < k) = true := by simp; omega
        have hcy := hcp.out (by omega)
        have hi1 : IntKind.i64.wrap ((k : Int) - 1) = (k : Int) - 1 := IntWalk.i64_in _ (by omega)
        have hi2 : ((k : Int) - 1).toNat = k - 1 := by omega
        have hi3 : 0 ≤ (k : Int) - 1 := by omega
        have hi4 : (k : Int) - 1 < (n : Int) := by omega
        generalize xs.getD (k - 1) 0 = y at *
        by_cases hle : x ≤ y
        · go_wp2
          go_quiet ((go_at_call 73; exact Calls.quiet_of_same (q_l1In' _ _ _ _)))
          go_wp2
          go_ret
          exact ⟨ret_bool HR.out.symm, below_drewN HGr.out _⟩
        · have hle2 : decide (x ≤ y) = false := by simp; omega
          go_wp2
          go_quiet ((go_at_call 73; exact Calls.quiet_of_same (q_l1In' _ _ _ _)))
          go_wp2
          go_roundw
          case rel => exact ⟨k + 1, by omega, by go_num, below_drewN HGk.out _⟩
          case measure => simp [intOf]; omega
    · obtain rfl : k = n := by omega
      rcases HB.out with h1 | h1
      · go_wp2_with (go_at_call 73; refine (c_l1In _ _ _ _).mono ?_; rintro e w' ⟨rfl, rfl⟩)
        go_ret
        exact ⟨ret_bool HR.out.symm, HGr.out⟩
      · cases h2 : inB N 0 100000
        all_goals
          go_wp2_with (go_at_call 73; refine (c_l1In _ _ _ _).mono ?_; rintro e w' ⟨rfl, rfl⟩)
          go_ret
          exact ⟨ret_bool HR.out.symm, HGr.out⟩
set_option maxHeartbeats 1000000 in
theorem s_RV_good (N R : Int) (a : Option Addr) (n cap : Nat) (xs : List Int) (w : World) (hxs : xs.length = n) (hn : n ≤ 1048576) (h : Ints w a xs) (h1 : inB N 0 100000 = true) (h2 : inB R 1 10 = true) :
    Calls Try.prog 69 #[.agg #[.int .i64 N, .int .i64 R, .slice a n cap]] w fun e w' => e = .returned (.bool (rv N R xs)) ∧ Below w.heap.size w w' := by
  have HX := Lib.hid hxs
  have HG : Hid (Below w.heap.size w (w.alloc (.cells #[.int .i64 N, .int .i64 R, .slice a n cap] 52))) := Lib.hid ((Below.refl _ _).alloc (Nat.le_refl _) _)
  have HI := Lib.hid (h.below HG.out)
  have HBx : Hid (Box (w.alloc (.cells #[.int .i64 N, .int .i64 R, .slice a n cap] 52)) w.heap.size 52 [.int .i64 N, .int .i64 R, .slice a n cap]) := Lib.hid (Box.new _ _ _)
  have HT := Lib.hid (fun hv => rv_of (N := N) (R := R) (hs := xs) h1 h2 hv)
  have H1 := Lib.hid h1
  have H2 := Lib.hid h2
  obtain ⟨b1, b2⟩ := inB_true.1 h1
  obtain ⟨b3, b4⟩ := inB_true.1 h2
  have HN1 : Hid (IntKind.i64.wrap (N + 1) = N + 1) := Lib.hid (IntWalk.i64_in _ (by omega))
  have HM1 : Hid (IntKind.i64.wrap (N + R) = N + R) := Lib.hid (IntWalk.i64_in _ (by omega))
  have HN2 : Hid (IntKind.i64.wrap (N + R - 1) = N + R - 1) := Lib.hid (IntWalk.i64_in _ (by omega))
  clear h hxs h1 h2
  go_enter Try.func69, Try.ntmps69
  go_wp2
  go_loopw [3] (fun i wr => ∃ (k : Nat), k ≤ n ∧ i = .int .i64 k ∧ Below (w.heap.size + 1) (w.alloc (.cells #[.int .i64 N, .int .i64 R, .slice a n cap] 52)) wr ∧ Hid (∀ j, j < k → rOk N R xs j = true)) (fun i _ => n - (intOf i).toNat)
  case atStart => exact ⟨0, Nat.zero_le _, rfl, Below.refl _ _, Lib.hid fun j hj => by omega⟩
  case round =>
    obtain ⟨k, hk, rfl, hGr, HV⟩ := hrel
    have hGr' : Below (w.alloc (.cells #[.int .i64 N, .int .i64 R, .slice a n cap] 52)).heap.size (w.alloc (.cells #[.int .i64 N, .int .i64 R, .slice a n cap] 52)) wr := by simpa using hGr
    obtain ⟨x0, x1, x2, fx⟩ := (HBx.out.keep hGr').three
    have HIr := Lib.hid (HI.out.below hGr')
    have HGr := Lib.hid (HG.out.trans (hGr.mono (by omega)))
    have HGk := Lib.hid hGr
    clear hGr hGr' fx
    by_cases hlt : k < n
    · obtain ⟨b, off, rfl, hb, hc⟩ := HIr.out.at HX.out hlt
      have c0 := hc k hlt
      have hcp := Lib.hid (fun (_ : 0 < k) => hc (k - 1) (by omega))
      clear hc
      have Q1 := Lib.hid (fun h => rv_not (N := N) (R := R) (hs := xs) (k := k) (by rw [HX.out]; exact hlt) (rOk_no h))
      have Q2 := Lib.hid (fun h => (rOk_iff (N := N) (R := R) (hs := xs) (k := k)).2 h)
      have hN1 := HN1.out
      have hM1 := HM1.out
      have hN2 := HN2.out
      generalize xs.getD k 0 = x at *
      cases g1 : inB x (N + 1) (N + R - 1)
      · have HR := Lib.hid (Q1.out (by have := inB_false.1 g1; omega))
        go_wp2
        go_quiet ((go_at_call 73; exact Calls.quiet_of_same (q_l1In' _ _ _ _)))
        go_wp2
        go_ret
        exact ⟨ret_bool HR.out.symm, below_drewN HGr.out _⟩
      have g2 := inB_true.1 g1
      by_cases hk0 : k = 0
      · have hk1 : decide (0 < k) = false := by simp; omega
        have HK := Lib.hid (Q2.out ⟨by omega, by omega, .inl hk0⟩)
        clear hk0 g2
        go_wp2
        go_quiet ((go_at_call 73; exact Calls.quiet_of_same (q_l1In' _ _ _ _)))
        go_wp2
        go_roundw
        case rel =>
          refine ⟨k + 1, by omega, by go_num, below_drewN HGk.out _, Lib.hid fun j hj => ?_⟩
          by_cases hjk : j = k
          · subst hjk; exact HK.out
          · exact HV.out j (by omega)
        case measure => simp [intOf]; omega
      · have hk1 : decide (0 < k) = true := by simp; omega
        have hcy := hcp.out (by omega)
        have hi1 : IntKind.i64.wrap ((k : Int) - 1) = (k : Int) - 1 := IntWalk.i64_in _ (by omega)
        have hi2 : ((k : Int) - 1).toNat = k - 1 := by omega
        have hi3 : 0 ≤ (k : Int) - 1 := by omega
        have hi4 : (k : Int) - 1 < (n : Int) := by omega
        generalize xs.getD (k - 1) 0 = y at *
        by_cases hle : x ≤ y
        · have HR := Lib.hid (Q1.out (by omega))
          clear g2
          go_wp2
          go_quiet ((go_at_call 73; exact Calls.quiet_of_same (q_l1In' _ _ _ _)))
          go_wp2
          go_ret
          exact ⟨ret_bool HR.out.symm, below_drewN HGr.out _⟩
        · have hle2 : decide (x ≤ y) = false := by simp; omega
          have HK := Lib.hid (Q2.out ⟨by omega, by omega, .inr (by omega)⟩)
          clear g2
          go_wp2
          go_quiet ((go_at_call 73; exact Calls.quiet_of_same (q_l1In' _ _ _ _)))
          go_wp2
          go_roundw
          case rel =>
            refine ⟨k + 1, by omega, by go_num, below_drewN HGk.out _, Lib.hid fun j hj => ?_⟩
            by_cases hjk : j = k
            · subst hjk; exact HK.out
            · exact HV.out j (by omega)
          case measure => simp [intOf]; omega
    · obtain rfl : k = n := by omega
      have HR := Lib.hid (HT.out (by rw [HX.out]; exact HV.out))
      have h1 := H1.out
      have h2 := H2.out
      go_wp2_with (go_at_call 73; refine (c_l1In _ _ _ _).mono ?_; rintro e w' ⟨rfl, rfl⟩)
      go_ret
      exact ⟨ret_bool HR.out.symm, HGr.out⟩
theorem s_ReceiverValid (N R : Int) (a : Option Addr) (n cap : Nat) (xs : List Int) (w : World) (hxs : xs.length = n) (hn : n ≤ 1048576) (h : Ints w a xs) :
    Calls Try.prog 69 #[.agg #[.int .i64 N, .int .i64 R, .slice a n cap]] w fun e w' => e = .returned (.bool (rv N R xs)) ∧ Below w.heap.size w w' := by
  cases h1 : inB N 0 100000
  · exact s_RV_bad N R a n cap xs w hxs hn h (.inl h1)
  cases h2 : inB R 1 10
  · exact s_RV_bad N R a n cap xs w hxs hn h (.inr h2)
  exact s_RV_good N R a n cap xs w hxs hn h h1 h2
end Go.Proofs.Ytalalapjanckdaa
