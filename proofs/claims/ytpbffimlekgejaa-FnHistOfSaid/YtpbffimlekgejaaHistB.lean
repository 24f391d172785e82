/- Contracts of HistRank, of the program and of the reference. No condition but lists of at most 2^20 numbers. -/
import Derived.Test.YtpbffimlekgejaaHistA
namespace Go.Proofs.Ytpbffimlekgejaa
open Go.RowKit
theorem hv_len {xs : List Int} (h : hv xs = true) : xs.length = 13 := by
  simp only [hv, Bool.and_eq_true, decide_eq_true_eq] at h; exact h.2
theorem hv_get {xs : List Int} (h : hv xs = true) {k : Nat} (hk : k < xs.length) : 0 ≤ xs.getD k 0 ∧ xs.getD k 0 ≤ 1000000 := by
  simp only [hv, Bool.and_eq_true] at h; exact all_get h.1 hk
/-- The sum of the first k counts. -/
def sumTo (xs : List Int) : Nat → Int
  | 0 => 0
  | k + 1 => sumTo xs k + xs.getD k 0
theorem sumTo_bd {xs : List Int} (h : hv xs = true) : ∀ k, k ≤ xs.length → 0 ≤ sumTo xs k ∧ sumTo xs k ≤ 1000000 * k
  | 0, _ => by simp [sumTo]
  | k + 1, hk => by
    have h1 := sumTo_bd h k (by omega)
    have h2 := hv_get h (k := k) (by omega)
    simp only [sumTo]; omega
/-- The first class from k on, at most f further ones, with the share. -/
def rankFrom (xs : List Int) (share all : Int) : Nat → Nat → Int
  | 0, _ => -1
  | f + 1, k => if share * all ≤ 100 * sumTo xs (k + 1) then (k : Int) else rankFrom xs share all f (k + 1)
def rankV (xs : List Int) (share : Int) : Int :=
  if hv xs && inB share 1 100 then (if 0 < sumTo xs 13 then rankFrom xs share (sumTo xs 13) 13 0 else -1) else -1
set_option maxHeartbeats 800000 in
theorem c_HistRank (a : Option Addr) (n cap : Nat) (xs : List Int) (share : Int) (w : World) (hxs : xs.length = n) (hn : n ≤ 1048576) (h : Ints w a xs) :
    Calls Try.prog 22 #[.slice a n cap, .int .i64 share] w fun e w' => e = .returned (.int .i64 (rankV xs share)) ∧ w = w' := by
  have HX := Lib.hid hxs
  have HI := Lib.hid h
  clear h hxs
  cases hh : hv xs
  · go_enter Try.func22, Try.ntmps22
    go_wp2_with (go_at_call 15; refine (c_HistValid _ _ _ xs _ HX.out hn HI.out).mono ?_; rintro e w' ⟨rfl, rfl⟩)
    go_ret
    exact ⟨ret_int (by rw [rankV, hh]; rfl), rfl⟩
  cases hs : inB share 1 100
  · go_enter Try.func22, Try.ntmps22
    go_wp2_with (first | (go_at_call 15; refine (c_HistValid _ _ _ xs _ HX.out hn HI.out).mono ?_; rintro e w' ⟨rfl, rfl⟩) | (go_at_call 35; refine (c_in _ _ _ _).mono ?_; rintro e w' ⟨rfl, rfl⟩))
    go_ret
    exact ⟨ret_int (by rw [rankV, hs, Bool.and_false]; rfl), rfl⟩
  obtain ⟨s1, s2⟩ := inB_true.1 hs
  have HH := Lib.hid hh
  obtain rfl : n = 13 := by rw [← HX.out, hv_len hh]
  rcases HI.out with h0 | ⟨b, off, ha, hb, hcell⟩
  · have := HX.out; rw [h0] at this; simp at this
  have HC := Lib.hid hcell
  subst ha
  clear hcell
  go_enter Try.func22, Try.ntmps22
  go_wp2_with (first | (go_at_call 15; refine (c_HistValid _ _ _ xs _ HX.out hn HI.out).mono ?_; rintro e w' ⟨rfl, rfl⟩) | (go_at_call 35; refine (c_in _ _ _ _).mono ?_; rintro e w' ⟨rfl, rfl⟩))
  go_loop [5, 21] (fun t i => ∃ k : Nat, k ≤ 13 ∧ i = .int .i64 k ∧ t = .int .i64 (sumTo xs k)) (fun _ i => 13 - (intOf i).toNat)
  case atStart => exact ⟨0, by omega, rfl, rfl⟩
  case round =>
    obtain ⟨k, hk, rfl, rfl⟩ := hrel
    have hb1 := sumTo_bd HH.out k (by rw [HX.out]; exact hk)
    obtain ⟨l1, l2⟩ := hb1
    by_cases hlt : k < 13
    · have hc1 := HC.out k (by rw [HX.out]; exact hlt)
      have hg := hv_get HH.out (k := k) (by rw [HX.out]; exact hlt)
      have HS := Lib.hid (show sumTo xs (k + 1) = sumTo xs k + xs.getD k 0 from rfl)
      generalize xs.getD k 0 = xk at hc1 hg HS
      obtain ⟨g1, g2⟩ := hg
      go_wp2_with fail
      go_round
      case rel => exact ⟨k + 1, by omega, by go_num, by rw [HS.out]⟩
      case measure => simp [intOf]; omega
    · obtain rfl : k = 13 := by omega
      generalize hT : sumTo xs 13 = T at l1 l2
      have HT := Lib.hid hT
      clear hT
      have m1 : 0 ≤ share * T := Int.mul_nonneg (by omega) l1
      have m2 : share * T ≤ 100 * T := Int.mul_le_mul_of_nonneg_right s2 l1
      have m3 : share * T ≤ 1300000000 := by omega
      clear m2
      by_cases hT0 : 0 < T
      · have HV := Lib.hid (show rankV xs share = rankFrom xs share T 13 0 by rw [rankV, HH.out, hs, HT.out]; simp [hT0])
        go_wp2_with fail
        go_loop [8, 31] (fun t i => ∃ k : Nat, k ≤ 13 ∧ i = .int .i64 k ∧ t = .int .i64 (sumTo xs k) ∧ Hid (rankFrom xs share T (13 - k) k = rankFrom xs share T 13 0)) (fun _ i => 13 - (intOf i).toNat)
        case atStart => exact ⟨0, by omega, rfl, rfl, Lib.hid rfl⟩
        case round =>
          obtain ⟨k, hk, rfl, rfl, HK⟩ := hrel
          have hb1 := sumTo_bd HH.out k (by rw [HX.out]; exact hk)
          obtain ⟨l1', l2'⟩ := hb1
          by_cases hlt : k < 13
          · have hc1 := HC.out k (by rw [HX.out]; exact hlt)
            have hg := hv_get HH.out (k := k) (by rw [HX.out]; exact hlt)
            have HS := Lib.hid (show sumTo xs (k + 1) = sumTo xs k + xs.getD k 0 from rfl)
            generalize xs.getD k 0 = xk at hc1 hg HS
            obtain ⟨g1, g2⟩ := hg
            have HN := Lib.hid (show rankFrom xs share T (13 - k) k = if share * T ≤ 100 * (sumTo xs k + xk) then (k : Int) else rankFrom xs share T (13 - (k + 1)) (k + 1) by
              rw [show 13 - k = (13 - (k + 1)) + 1 from by omega, rankFrom, HS.out])
            by_cases hr : share * T ≤ 100 * (sumTo xs k + xk)
            · go_wp2_with fail
              go_ret
              exact ⟨ret_int (by rw [HV.out, ← HK.out, HN.out, if_pos hr]), rfl⟩
            · have hr' : 100 * (sumTo xs k + xk) < share * T := by omega
              go_wp2_with fail
              go_round
              case rel => exact ⟨k + 1, by omega, by go_num, by rw [HS.out], Lib.hid (by rw [← HK.out, HN.out, if_neg hr])⟩
              case measure => simp [intOf]; omega
          · obtain rfl : k = 13 := by omega
            go_wp2_with fail
            go_ret
            exact ⟨ret_int (by rw [HV.out, ← HK.out]; rfl), rfl⟩
      · have HV := Lib.hid (show rankV xs share = -1 by rw [rankV, HH.out, hs, HT.out]; simp [hT0])
        obtain rfl : T = 0 := by omega
        go_wp2_with fail
        go_loop [8, 31] (fun t i => ∃ k : Nat, k ≤ 13 ∧ i = .int .i64 k ∧ t = .int .i64 (sumTo xs k)) (fun _ i => 13 - (intOf i).toNat)
        case atStart => exact ⟨0, by omega, rfl, rfl⟩
        case round =>
          obtain ⟨k, hk, rfl, rfl⟩ := hrel
          have hb1 := sumTo_bd HH.out k (by rw [HX.out]; exact hk)
          obtain ⟨l1', l2'⟩ := hb1
          by_cases hlt : k < 13
          · have hc1 := HC.out k (by rw [HX.out]; exact hlt)
            have hg := hv_get HH.out (k := k) (by rw [HX.out]; exact hlt)
            have HS := Lib.hid (show sumTo xs (k + 1) = sumTo xs k + xs.getD k 0 from rfl)
            generalize xs.getD k 0 = xk at hc1 hg HS
            obtain ⟨g1, g2⟩ := hg
            go_wp2_with fail
            go_round
            case rel => exact ⟨k + 1, by omega, by go_num, by rw [HS.out]⟩
            case measure => simp [intOf]; omega
          · obtain rfl : k = 13 := by omega
            go_wp2_with fail
            go_ret
            exact ⟨ret_int (by rw [HV.out]), rfl⟩
set_option maxHeartbeats 800000 in
theorem s_HistRank (a : Option Addr) (n cap : Nat) (xs : List Int) (share : Int) (w : World) (hxs : xs.length = n) (hn : n ≤ 1048576) (h : Ints w a xs) :
    Calls Try.prog 21 #[.slice a n cap, .int .i64 share] w fun e w' => e = .returned (.int .i64 (rankV xs share)) ∧ w = w' := by
  have HX := Lib.hid hxs
  have HI := Lib.hid h
  clear h hxs
  cases hh : hv xs
  · go_enter Try.func21, Try.ntmps21
    go_wp2_with (go_at_call 13; refine (s_HistValid _ _ _ xs _ HX.out hn HI.out).mono ?_; rintro e w' ⟨rfl, rfl⟩)
    go_ret
    exact ⟨ret_int (by rw [rankV, hh]; rfl), rfl⟩
  cases hs : inB share 1 100
  · go_enter Try.func21, Try.ntmps21
    go_wp2_with (first | (go_at_call 13; refine (s_HistValid _ _ _ xs _ HX.out hn HI.out).mono ?_; rintro e w' ⟨rfl, rfl⟩) | (go_at_call 34; refine (c_l1In _ _ _ _).mono ?_; rintro e w' ⟨rfl, rfl⟩))
    go_ret
    exact ⟨ret_int (by rw [rankV, hs, Bool.and_false]; rfl), rfl⟩
  obtain ⟨s1, s2⟩ := inB_true.1 hs
  have HH := Lib.hid hh
  obtain rfl : n = 13 := by rw [← HX.out, hv_len hh]
  rcases HI.out with h0 | ⟨b, off, ha, hb, hcell⟩
  · have := HX.out; rw [h0] at this; simp at this
  have HC := Lib.hid hcell
  subst ha
  clear hcell
  go_enter Try.func21, Try.ntmps21
  go_wp2_with (first | (go_at_call 13; refine (s_HistValid _ _ _ xs _ HX.out hn HI.out).mono ?_; rintro e w' ⟨rfl, rfl⟩) | (go_at_call 34; refine (c_l1In _ _ _ _).mono ?_; rintro e w' ⟨rfl, rfl⟩))
  go_loop [5, 6] (fun t i => ∃ k : Nat, k ≤ 13 ∧ i = .int .i64 k ∧ t = .int .i64 (sumTo xs k)) (fun _ i => 13 - (intOf i).toNat)
  case atStart => exact ⟨0, by omega, rfl, rfl⟩
  case round =>
    obtain ⟨k, hk, rfl, rfl⟩ := hrel
    have hb1 := sumTo_bd HH.out k (by rw [HX.out]; exact hk)
    obtain ⟨l1, l2⟩ := hb1
    by_cases hlt : k < 13
    · have hc1 := HC.out k (by rw [HX.out]; exact hlt)
      have hg := hv_get HH.out (k := k) (by rw [HX.out]; exact hlt)
      have HS := Lib.hid (show sumTo xs (k + 1) = sumTo xs k + xs.getD k 0 from rfl)
      generalize xs.getD k 0 = xk at hc1 hg HS
      obtain ⟨g1, g2⟩ := hg
      go_wp2_with fail
      go_round
      case rel => exact ⟨k + 1, by omega, by go_num, by rw [HS.out]⟩
      case measure => simp [intOf]; omega
    · obtain rfl : k = 13 := by omega
      generalize hT : sumTo xs 13 = T at l1 l2
      have HT := Lib.hid hT
      clear hT
      have m1 : 0 ≤ share * T := Int.mul_nonneg (by omega) l1
      have m2 : share * T ≤ 100 * T := Int.mul_le_mul_of_nonneg_right s2 l1
      have m3 : share * T ≤ 1300000000 := by omega
      clear m2
      by_cases hT0 : 0 < T
      · have HV := Lib.hid (show rankV xs share = rankFrom xs share T 13 0 by rw [rankV, HH.out, hs, HT.out]; simp [hT0])
        go_wp2_with fail
        go_loop [7, 8] (fun t i => ∃ k : Nat, k ≤ 13 ∧ i = .int .i64 k ∧ t = .int .i64 (sumTo xs k) ∧ Hid (rankFrom xs share T (13 - k) k = rankFrom xs share T 13 0)) (fun _ i => 13 - (intOf i).toNat)
        case atStart => exact ⟨0, by omega, rfl, rfl, Lib.hid rfl⟩
        case round =>
          obtain ⟨k, hk, rfl, rfl, HK⟩ := hrel
          have hb1 := sumTo_bd HH.out k (by rw [HX.out]; exact hk)
          obtain ⟨l1', l2'⟩ := hb1
          by_cases hlt : k < 13
          · have hc1 := HC.out k (by rw [HX.out]; exact hlt)
            have hg := hv_get HH.out (k := k) (by rw [HX.out]; exact hlt)
            have HS := Lib.hid (show sumTo xs (k + 1) = sumTo xs k + xs.getD k 0 from rfl)
            generalize xs.getD k 0 = xk at hc1 hg HS
            obtain ⟨g1, g2⟩ := hg
            have HN := Lib.hid (show rankFrom xs share T (13 - k) k = if share * T ≤ 100 * (sumTo xs k + xk) then (k : Int) else rankFrom xs share T (13 - (k + 1)) (k + 1) by
              rw [show 13 - k = (13 - (k + 1)) + 1 from by omega, rankFrom, HS.out])
            by_cases hr : share * T ≤ 100 * (sumTo xs k + xk)
            · go_wp2_with fail
              go_ret
              exact ⟨ret_int (by rw [HV.out, ← HK.out, HN.out, if_pos hr]), rfl⟩
            · have hr' : 100 * (sumTo xs k + xk) < share * T := by omega
              go_wp2_with fail
              go_round
              case rel => exact ⟨k + 1, by omega, by go_num, by rw [HS.out], Lib.hid (by rw [← HK.out, HN.out, if_neg hr])⟩
              case measure => simp [intOf]; omega
          · obtain rfl : k = 13 := by omega
            go_wp2_with fail
            go_ret
            exact ⟨ret_int (by rw [HV.out, ← HK.out]; rfl), rfl⟩
      · have HV := Lib.hid (show rankV xs share = -1 by rw [rankV, HH.out, hs, HT.out]; simp [hT0])
        obtain rfl : T = 0 := by omega
        go_wp2_with fail
        go_rounds 1
        go_ret
        exact ⟨ret_int (by rw [HV.out]), rfl⟩
end Go.Proofs.Ytpbffimlekgejaa
