/- Contracts of HistValid and ClassOf, of the program and of the reference. No condition but lists of at most 2^20 numbers, and numbers that fit an int. -/
import Derived.Test.YtdgfngcfodccmaaBox
namespace Go.Proofs.Ytdgfngcfodccmaa
open Go.RowKit
/-- A histogram is valid. -/
def hv (xs : List Int) : Bool := xs.all (fun x => inB x 0 1000000) && decide (xs.length = 13)
theorem all_not {xs : List Int} {k : Nat} {lo hi : Int} (hk : k < xs.length) (h : inB (xs.getD k 0) lo hi = false) : xs.all (fun x => inB x lo hi) = false := by
  rw [← Bool.not_eq_true]
  intro h'
  have := List.all_eq_true.1 h' (xs.getD k 0) (by simp [List.getD_eq_getElem?_getD, hk])
  rw [this] at h; cases h
theorem all_of {xs : List Int} {lo hi : Int} (h : ∀ j, j < xs.length → inB (xs.getD j 0) lo hi = true) : xs.all (fun x => inB x lo hi) = true := by
  refine List.all_eq_true.2 fun x hx => ?_
  obtain ⟨j, hj, rfl⟩ := List.mem_iff_getElem.1 hx
  have := h j hj
  simpa [List.getD_eq_getElem?_getD, hj] using this
theorem all_get {xs : List Int} {lo hi : Int} (h : xs.all (fun x => inB x lo hi) = true) {k : Nat} (hk : k < xs.length) : lo ≤ xs.getD k 0 ∧ xs.getD k 0 ≤ hi :=
  inB_true.1 (List.all_eq_true.1 h (xs.getD k 0) (by simp [List.getD_eq_getElem?_getD, hk]))
set_option maxHeartbeats 400000 in
theorem c_HistValid (a : Option Addr) (n cap : Nat) (xs : List Int) (w : World) (hxs : xs.length = n) (hn : n ≤ 1048576) (h : Ints w a xs) :
    Calls Try.prog 26 #[.slice a n cap] w fun e w' => e = .returned (.bool (hv xs)) ∧ w = w' := by
  have HX := Lib.hid hxs
  have HI := Lib.hid h
  clear h hxs
  go_enter Try.func26, Try.ntmps26
  go_wp2
  go_loop [7] (fun i => ∃ (k : Nat), k ≤ n ∧ i = .int .i64 k ∧ Hid (∀ j, j < k → inB (xs.getD j 0) 0 1000000 = true)) (fun i => n - (intOf i).toNat)
  case atStart => exact ⟨0, Nat.zero_le _, rfl, Lib.hid fun j hj => by omega⟩
  case round =>
    obtain ⟨k, hk, rfl, HV⟩ := hrel
    by_cases hlt : k < n
    · rcases HI.out with h0 | ⟨b, off, ha, hb, hcell⟩
      · have := HX.out; rw [h0] at this; simp at this; omega
      · have hc1 := hcell k (by have := HX.out; omega)
        subst ha
        clear hcell
        generalize hxk : xs.getD k 0 = xk at hc1
        have HXK := Lib.hid hxk
        clear hxk
        cases hv1 : inB xk 0 1000000
        · go_wp2_with (go_at_call 37; refine (c_in _ _ _ _).mono ?_; rintro e w' ⟨rfl, rfl⟩)
          go_ret
          exact ⟨by rw [hv, all_not (k := k) (by have := HX.out; omega) (by rw [HXK.out]; exact hv1)]; rfl, rfl⟩
        · go_wp2_with (go_at_call 37; refine (c_in _ _ _ _).mono ?_; rintro e w' ⟨rfl, rfl⟩)
          go_round
          case rel =>
            refine ⟨k + 1, by omega, by go_num, Lib.hid fun j hj => ?_⟩
            by_cases hjk : j = k
            · subst hjk; rw [HXK.out]; exact hv1
            · exact HV.out j (by omega)
          case measure => simp [intOf]; omega
    · obtain rfl : k = n := by omega
      have hr : hv xs = decide (k = 13) := by rw [hv, all_of (by rw [HX.out]; exact HV.out), HX.out]; rfl
      have HR := Lib.hid hr
      clear hr
      by_cases h13 : k = 13
      · subst h13
        go_wp2
        go_ret
        exact ⟨by rw [HR.out]; rfl, rfl⟩
      · have h13' : ((k : Int) == 13) = false := by simp; omega
        go_wp2
        go_ret
        exact ⟨ret_bool (by rw [HR.out, decide_eq_false h13]), rfl⟩
set_option maxHeartbeats 400000 in
theorem s_HistValid (a : Option Addr) (n cap : Nat) (xs : List Int) (w : World) (hxs : xs.length = n) (hn : n ≤ 1048576) (h : Ints w a xs) :
    Calls Try.prog 41 #[.slice a n cap] w fun e w' => e = .returned (.bool (hv xs)) ∧ w = w' := by
  have HX := Lib.hid hxs
  have HI := Lib.hid h
  clear h hxs
  go_enter Try.func41, Try.ntmps41
  go_wp2
  go_loop [3] (fun i => ∃ (k : Nat), k ≤ n ∧ i = .int .i64 k ∧ Hid (∀ j, j < k → inB (xs.getD j 0) 0 1000000 = true)) (fun i => n - (intOf i).toNat)
  case atStart => exact ⟨0, Nat.zero_le _, rfl, Lib.hid fun j hj => by omega⟩
  case round =>
    obtain ⟨k, hk, rfl, HV⟩ := hrel
    by_cases hlt : k < n
    · rcases HI.out with h0 | ⟨b, off, ha, hb, hcell⟩
      · have := HX.out; rw [h0] at this; simp at this; omega
      · have hc1 := hcell k (by have := HX.out; omega)
        subst ha
        clear hcell
        generalize hxk : xs.getD k 0 = xk at hc1
        have HXK := Lib.hid hxk
        clear hxk
        cases hv1 : inB xk 0 1000000
        · go_wp2_with (go_at_call 39; refine (c_l1In _ _ _ _).mono ?_; rintro e w' ⟨rfl, rfl⟩)
          go_ret
          exact ⟨by rw [hv, all_not (k := k) (by have := HX.out; omega) (by rw [HXK.out]; exact hv1)]; rfl, rfl⟩
        · go_wp2_with (go_at_call 39; refine (c_l1In _ _ _ _).mono ?_; rintro e w' ⟨rfl, rfl⟩)
          go_round
          case rel =>
            refine ⟨k + 1, by omega, by go_num, Lib.hid fun j hj => ?_⟩
            by_cases hjk : j = k
            · subst hjk; rw [HXK.out]; exact hv1
            · exact HV.out j (by omega)
          case measure => simp [intOf]; omega
    · obtain rfl : k = n := by omega
      have hr : hv xs = decide (k = 13) := by rw [hv, all_of (by rw [HX.out]; exact HV.out), HX.out]; rfl
      have HR := Lib.hid hr
      clear hr
      by_cases h13 : k = 13
      · subst h13
        go_wp2
        go_ret
        exact ⟨by rw [HR.out]; rfl, rfl⟩
      · have h13' : ((k : Int) == 13) = false := by simp; omega
        go_wp2
        go_ret
        exact ⟨ret_bool (by rw [HR.out, decide_eq_false h13]), rfl⟩
end Go.Proofs.Ytdgfngcfodccmaa
