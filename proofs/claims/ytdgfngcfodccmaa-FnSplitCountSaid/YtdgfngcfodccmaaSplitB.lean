/- Contracts of SplitCount, of the program and of the reference. No condition but lists of at most 2^20 numbers. -/
import Derived.Test.YtdgfngcfodccmaaSplit
namespace Go.Proofs.Ytdgfngcfodccmaa
open Go.RowKit
/-- How many of the first k keys are among the share. -/
def cntTo (xs : List Int) (s : Int) : Nat → Int
  | 0 => 0
  | k + 1 => cntTo xs s k + if splitB (xs.getD k 0) s then 1 else 0
theorem cntTo_bd (xs : List Int) (s : Int) : ∀ k, 0 ≤ cntTo xs s k ∧ cntTo xs s k ≤ k
  | 0 => by simp [cntTo]
  | k + 1 => by have := cntTo_bd xs s k; simp only [cntTo]; split <;> omega
def cntV (xs : List Int) (s : Int) : Int := if decide (xs.length ≤ 60) && inB s 0 100 && keyOk xs then cntTo xs s xs.length else -1
theorem keyOk_not {xs : List Int} {k : Nat} (hk : k < xs.length) (h : inB (xs.getD k 0) 0 1000002 = false) : keyOk xs = false := all_not hk h
theorem keyOk_of {xs : List Int} (h : ∀ j, j < xs.length → inB (xs.getD j 0) 0 1000002 = true) : keyOk xs = true := all_of h
set_option maxHeartbeats 800000 in
theorem c_SplitCount (a : Option Addr) (n cap : Nat) (xs : List Int) (s : Int) (w : World) (hxs : xs.length = n) (hn : n ≤ 1048576) (h : Ints w a xs) :
    Calls Try.prog 28 #[.slice a n cap, .int .i64 s] w fun e w' => e = .returned (.int .i64 (cntV xs s)) ∧ Below w.heap.size w w' := by
  have HX := Lib.hid hxs
  have HI := Lib.hid h
  clear h hxs
  by_cases h60 : 60 < n
  · have h60' : (60 : Int) < (n : Int) := by omega
    go_enter Try.func28, Try.ntmps28
    go_wp2
    go_ret
    exact ⟨ret_int (by rw [cntV, decide_eq_false (by rw [HX.out]; omega)]; rfl), Below.refl _ _⟩
  have h60' : (n : Int) ≤ 60 := by omega
  cases hs : inB s 0 100
  · go_enter Try.func28, Try.ntmps28
    go_wp2_with (go_at_call 48; refine (c_isShare _ _).mono ?_; rintro e w' ⟨rfl, rfl⟩)
    go_ret
    exact ⟨ret_int (by rw [cntV, hs, Bool.and_false]; rfl), Below.refl _ _⟩
  have HS := Lib.hid hs
  go_enter Try.func28, Try.ntmps28
  go_wp2_with (go_at_call 48; refine (c_isShare _ _).mono ?_; rintro e w' ⟨rfl, rfl⟩)
  clear hs
  go_loopw [5, 18] (fun t i wr => ∃ (k : Nat), k ≤ n ∧ i = .int .i64 k ∧ t = .int .i64 (cntTo xs s k) ∧ Hid (∀ j, j < k → inB (xs.getD j 0) 0 1000002 = true) ∧ Below w.heap.size w wr) (fun _ i _ => n - (intOf i).toNat)
  case atStart => exact ⟨0, Nat.zero_le _, rfl, rfl, Lib.hid fun j hj => by omega, Below.refl _ _⟩
  case round =>
    obtain ⟨k, hk, rfl, rfl, HV, hG⟩ := hrel
    have HG := Lib.hid hG
    clear hG
    have hcb := cntTo_bd xs s k
    obtain ⟨cb1, cb2⟩ := hcb
    by_cases hlt : k < n
    · rcases HI.out with h0 | ⟨b, off, ha, hb, hcell⟩
      · have := HX.out; rw [h0] at this; simp at this; omega
      · have hc1 := (HG.out.cell (p := ⟨b, off + k, none⟩) hb).trans (hcell k (by have := HX.out; omega))
        have HS2 := Lib.hid (show cntTo xs s (k + 1) = cntTo xs s k + if splitB (xs.getD k 0) s then 1 else 0 from rfl)
        subst ha
        clear hcell
        generalize hxk : xs.getD k 0 = xk at hc1 HS2
        have HXK := Lib.hid hxk
        clear hxk
        generalize hm : cntTo xs s k = m at cb1 cb2 HS2
        clear hm
        have z0 := HG.out.size
        cases hv1 : inB xk 0 1000002
        · go_wp2_with (go_at_call 49; refine (c_isKey _ _).mono ?_; rintro e w' ⟨rfl, rfl⟩)
          go_ret
          exact ⟨ret_int (by rw [cntV, keyOk_not (k := k) (by have := HX.out; omega) (by rw [HXK.out]; exact hv1), Bool.and_false]; rfl), HG.out⟩
        · cases hsp : splitB xk s
          all_goals
            go_wp2_with (first | (go_at_call 49; refine (c_isKey _ _).mono ?_; rintro e w' ⟨rfl, rfl⟩) | (go_at_call 31; refine (c_SplitKey _ _ _).mono ?_; rintro e w' ⟨rfl, hb'⟩))
            go_roundw
            case rel =>
              refine ⟨k + 1, by omega, by go_num, by rw [HS2.out, hsp]; first | rfl | simp, Lib.hid fun j hj => ?_, HG.out.trans (Below.mono (by assumption) z0)⟩
              by_cases hjk : j = k
              · subst hjk; rw [HXK.out]; exact hv1
              · exact HV.out j (by omega)
            case measure => simp [intOf]; omega
    · obtain rfl : k = n := by omega
      go_wp2
      go_ret
      refine ⟨ret_int ?_, HG.out⟩
      rw [cntV, HS.out, keyOk_of (by rw [HX.out]; exact HV.out), decide_eq_true (by rw [HX.out]; omega), HX.out]
      rfl
set_option maxHeartbeats 800000 in
theorem s_SplitCount (a : Option Addr) (n cap : Nat) (xs : List Int) (s : Int) (w : World) (hxs : xs.length = n) (hn : n ≤ 1048576) (h : Ints w a xs) :
    Calls Try.prog 29 #[.slice a n cap, .int .i64 s] w fun e w' => e = .returned (.int .i64 (cntV xs s)) ∧ Below w.heap.size w w' := by
  have HX := Lib.hid hxs
  have HI := Lib.hid h
  clear h hxs
  by_cases h60 : 60 < n
  · have h60' : (60 : Int) < (n : Int) := by omega
    have HR := Lib.hid (show cntV xs s = -1 by rw [cntV, decide_eq_false (by rw [HX.out]; omega)]; rfl)
    rcases HI.out with h0 | ⟨b, off, ha, hb, hcell⟩
    · have := HX.out; rw [h0] at this; simp at this; omega
    have hc1 := hcell 0 (by have := HX.out; omega)
    rw [Nat.add_zero] at hc1
    subst ha
    clear hcell
    generalize xs.getD 0 0 = x0 at hc1
    have hn0 : 0 < n := by omega
    cases hv : inB x0 0 1000002
    all_goals
      go_enter Try.func29, Try.ntmps29
      go_wp2
      refine wp_loop_rounds 1 ?_
      rw [rounds_succ]
      go_wp2_with (go_at_call 39; refine (c_l1In _ _ _ _).mono ?_; rintro e w' ⟨rfl, rfl⟩)
      go_ret
      exact ⟨ret_int HR.out.symm, Below.refl _ _⟩
  have h60' : (n : Int) ≤ 60 := by omega
  go_enter Try.func29, Try.ntmps29
  go_wp2
  go_loopw [5, 6] (fun t i wr => ∃ (k : Nat), k ≤ n ∧ i = .int .i64 k ∧ t = .int .i64 (cntTo xs s k) ∧ Hid (∀ j, j < k → inB (xs.getD j 0) 0 1000002 = true) ∧ Below w.heap.size w wr) (fun _ i _ => n - (intOf i).toNat)
  case atStart => exact ⟨0, Nat.zero_le _, rfl, rfl, Lib.hid fun j hj => by omega, Below.refl _ _⟩
  case round =>
    obtain ⟨k, hk, rfl, rfl, HV, hG⟩ := hrel
    have HG := Lib.hid hG
    clear hG
    have hcb := cntTo_bd xs s k
    obtain ⟨cb1, cb2⟩ := hcb
    by_cases hlt : k < n
    · rcases HI.out with h0 | ⟨b, off, ha, hb, hcell⟩
      · have := HX.out; rw [h0] at this; simp at this; omega
      · have hc1 := (HG.out.cell (p := ⟨b, off + k, none⟩) hb).trans (hcell k (by have := HX.out; omega))
        have HS2 := Lib.hid (show cntTo xs s (k + 1) = cntTo xs s k + if splitB (xs.getD k 0) s then 1 else 0 from rfl)
        subst ha
        clear hcell
        generalize hxk : xs.getD k 0 = xk at hc1 HS2
        have HXK := Lib.hid hxk
        clear hxk
        generalize hm : cntTo xs s k = m at cb1 cb2 HS2
        clear hm
        have z0 := HG.out.size
        cases hv1 : inB xk 0 1000002
        · go_wp2_with (go_at_call 39; refine (c_l1In _ _ _ _).mono ?_; rintro e w' ⟨rfl, rfl⟩)
          go_ret
          exact ⟨ret_int (by rw [cntV, keyOk_not (k := k) (by have := HX.out; omega) (by rw [HXK.out]; exact hv1), Bool.and_false]; rfl), HG.out⟩
        · cases hsp : splitB xk s
          all_goals
            go_wp2_with (first | (go_at_call 39; refine (c_l1In _ _ _ _).mono ?_; rintro e w' ⟨rfl, rfl⟩) | (go_at_call 32; refine (s_SplitKey _ _ _).mono ?_; rintro e w' ⟨rfl, hb'⟩))
            go_roundw
            case rel =>
              refine ⟨k + 1, by omega, by go_num, by rw [HS2.out, hsp]; first | rfl | simp, Lib.hid fun j hj => ?_, HG.out.trans (Below.mono (by assumption) z0)⟩
              by_cases hjk : j = k
              · subst hjk; rw [HXK.out]; exact hv1
              · exact HV.out j (by omega)
            case measure => simp [intOf]; omega
    · obtain rfl : k = n := by omega
      cases hs : inB s 0 100
      · go_wp2_with (go_at_call 39; refine (c_l1In _ _ _ _).mono ?_; rintro e w' ⟨rfl, rfl⟩)
        go_ret
        exact ⟨ret_int (by rw [cntV, hs, Bool.and_false]; rfl), HG.out⟩
      · have HS := Lib.hid hs
        go_wp2_with (go_at_call 39; refine (c_l1In _ _ _ _).mono ?_; rintro e w' ⟨rfl, rfl⟩)
        go_ret
        refine ⟨ret_int ?_, HG.out⟩
        rw [cntV, HS.out, keyOk_of (by rw [HX.out]; exact HV.out), decide_eq_true (by rw [HX.out]; omega), HX.out]
        rfl
end Go.Proofs.Ytdgfngcfodccmaa
