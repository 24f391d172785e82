/- Contracts of SplitKey, SplitCount and SplitPart, of the program and of the reference. No condition but lists of at most 2^20 numbers. -/
import Derived.Test.YtdgfngcfodccmaaMix
namespace Go.Proofs.Ytdgfngcfodccmaa
open Go.RowKit
/-- The hash that decides a key's part. -/
def ph (k : Int) : Int := mixV [k, 7] % 100
theorem mixV_two {k : Int} (h : inB k 0 1000002 = true) : 0 ≤ mixV [k, 7] ∧ mixV [k, 7] ≤ 1000002 := by
  have hk : keyOk [k, 7] = true := by
    have h7 : inB 7 0 1000002 = true := by decide
    simp only [keyOk, List.all_cons, List.all_nil, h, h7, Bool.and_self]
  rw [mixV, hk]
  exact mixAll_bd [k, 7] 2 (by simp)
theorem ph_bd {k : Int} (_ : inB k 0 1000002 = true) : 0 ≤ ph k ∧ ph k < 100 := by unfold ph; omega
def splitB (k s : Int) : Bool := inB k 0 1000002 && inB s 0 100 && decide (ph k < s)
theorem two_ints (w : World) (k : Int) : Ints (w.alloc (.cells #[.int .i64 k, .int .i64 7] 3)) (some ⟨w.heap.size, 0, none⟩) [k, 7] := by
  refine .inr ⟨w.heap.size, 0, rfl, by simp, fun i hi => ?_⟩
  match i, hi with
  | 0, _ => simp [go_sem]
  | 1, _ => simp [go_sem]
theorem c_mix2 (k : Int) (W : World) (a : Option Addr) (h : Ints W a [k, 7]) :
    Calls Try.prog 54 #[.slice a 2 2] W fun e w' => e = .returned (.int .i64 (mixV [k, 7])) ∧ W = w' := by
  have HI := Lib.hid h
  clear h
  go_enter Try.func54, Try.ntmps54
  go_wp2_with fail
  refine (c_MixNumbers _ 2 2 [k, 7] _ rfl (by decide) HI.out).mono ?_; rintro e w' ⟨rfl, rfl⟩
  go_wp2_with fail
  go_ret
  exact ⟨rfl, rfl⟩
theorem c_partHash (k : Int) (w : World) (hk : inB k 0 1000002 = true) :
    Calls Try.prog 51 #[.int .i64 k] w fun e w' => e = .returned (.int .i64 (ph k)) ∧ Below w.heap.size w w' := by
  obtain ⟨m1, m2⟩ := mixV_two hk
  have HI := Lib.hid (two_ints w k)
  have HP := Lib.hid (show ph k = mixV [k, 7] % 100 from rfl)
  clear hk
  go_enter Try.func51, Try.ntmps51
  go_wp2_with fail
  refine (c_mix2 k _ _ HI.out).mono ?_; rintro e w' ⟨rfl, rfl⟩
  go_wp2_with fail
  go_ret
  exact ⟨ret_int HP.out.symm, by go_grown⟩
theorem c_isShare (n : Int) (w : World) :
    Calls Try.prog 48 #[.int .i64 n] w fun e w' => e = .returned (.bool (inB n 0 100)) ∧ w = w' := by
  go_enter Try.func48, Try.ntmps48
  go_wp2_with (go_at_call 37; refine (c_in _ _ _ _).mono ?_; rintro e w' ⟨rfl, rfl⟩)
  go_ret
  exact ⟨rfl, rfl⟩
theorem c_SplitKey (k s : Int) (w : World) :
    Calls Try.prog 31 #[.int .i64 k, .int .i64 s] w fun e w' => e = .returned (.bool (splitB k s)) ∧ Below w.heap.size w w' := by
  cases hk : inB k 0 1000002 <;> cases hs : inB s 0 100
  case true.true =>
    have HB := Lib.hid (show splitB k s = decide (ph k < s) by simp [splitB, hk, hs])
    have HK := Lib.hid hk
    by_cases hl : ph k < s
    all_goals
      go_enter Try.func31, Try.ntmps31
      go_wp2_with (first | (go_at_call 49; refine (c_isKey _ _).mono ?_; rintro e w' ⟨rfl, rfl⟩) | (go_at_call 48; refine (c_isShare _ _).mono ?_; rintro e w' ⟨rfl, rfl⟩) | (go_at_call 51; refine (c_partHash _ _ HK.out).mono ?_; rintro e w' ⟨rfl, hb⟩))
      go_ret
      exact ⟨ret_bool (by rw [HB.out]; try simp [hl]), by assumption⟩
  all_goals
    go_enter Try.func31, Try.ntmps31
    go_wp2_with (first | (go_at_call 49; refine (c_isKey _ _).mono ?_; rintro e w' ⟨rfl, rfl⟩) | (go_at_call 48; refine (c_isShare _ _).mono ?_; rintro e w' ⟨rfl, rfl⟩))
    go_ret
    exact ⟨ret_bool (by simp [splitB, hk, hs]), Below.refl _ _⟩
theorem s_SplitKey (k s : Int) (w : World) :
    Calls Try.prog 32 #[.int .i64 k, .int .i64 s] w fun e w' => e = .returned (.bool (splitB k s)) ∧ Below w.heap.size w w' := by
  cases hk : inB k 0 1000002 <;> cases hs : inB s 0 100
  case true.true =>
    obtain ⟨m1, m2⟩ := mixV_two hk
    have HP := Lib.hid (show ph k = mixV [k, 7] % 100 from rfl)
    have HB := Lib.hid (show splitB k s = decide (ph k < s) by simp [splitB, hk, hs])
    have HI := Lib.hid (two_ints w k)
    by_cases hl : mixV [k, 7] % 100 < s
    all_goals
      go_enter Try.func32, Try.ntmps32
      go_wp2_with (first | (go_at_call 39; refine (c_l1In _ _ _ _).mono ?_; rintro e w' ⟨rfl, rfl⟩) | (go_at_call 52; refine (s_MixNumbers _ 2 2 [k, 7] _ rfl (by decide) HI.out).mono ?_; rintro e w' ⟨rfl, rfl⟩))
      go_ret
      exact ⟨ret_bool (by rw [HB.out, HP.out]; try simp [hl]), by go_grown⟩
  all_goals
    go_enter Try.func32, Try.ntmps32
    go_wp2_with (go_at_call 39; refine (c_l1In _ _ _ _).mono ?_; rintro e w' ⟨rfl, rfl⟩)
    go_ret
    exact ⟨ret_bool (by simp [splitB, hk, hs]), Below.refl _ _⟩
end Go.Proofs.Ytdgfngcfodccmaa
