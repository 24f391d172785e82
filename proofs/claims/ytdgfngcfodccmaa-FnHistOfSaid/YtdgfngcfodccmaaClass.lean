/- Contracts of ClassOf, of the program and of the reference. No condition but numbers that fit an int. -/
import Derived.Test.YtdgfngcfodccmaaHistA
import Derived.Test.YtdgfngcfodccmaaShelf
namespace Go.Proofs.Ytdgfngcfodccmaa
open Go.RowKit
/-- How many halvings, at most f, make n nought. -/
def halves : Nat → Nat → Nat
  | 0, _ => 0
  | f + 1, n => if n = 0 then 0 else 1 + halves f (n / 2)
/-- The class of a time. -/
def cls (n : Int) : Int := if n < 0 then -1 else halves 12 n.toNat
theorem halves_le : ∀ (f n : Nat), halves f n ≤ f
  | 0, _ => Nat.le_refl _
  | f + 1, n => by
    unfold halves
    split
    · omega
    · have := halves_le f (n / 2); omega
theorem halves_bitLen : ∀ (f g n : Nat), f ≤ g → min (Lib.bitLenAux g n) f = halves f n
  | 0, g, n, _ => by simp [halves]
  | f + 1, 0, n, h => by omega
  | f + 1, g + 1, n, h => by
    unfold Lib.bitLenAux halves
    split
    · simp
    · have := halves_bitLen f g (n / 2) (by omega); omega
theorem c_ClassOf (n : Int) (w : World) (h1 : -9223372036854775808 ≤ n) (h2 : n ≤ 9223372036854775807) :
    Calls Try.prog 44 #[.int .i64 n] w fun e w' => e = .returned (.int .i64 (cls n)) ∧ w = w' := by
  by_cases hn : n < 0
  · go_enter Try.func44, Try.ntmps44
    go_wp2_with fail
    go_ret
    exact ⟨ret_int (by rw [cls, if_pos hn]), rfl⟩
  · have hn' : 0 ≤ n := by omega
    have HB := Lib.hid (halves_bitLen 12 64 n.toNat (by decide))
    have HC := Lib.hid (show cls n = halves 12 n.toNat by rw [cls, if_neg hn])
    clear hn
    go_enter Try.func44, Try.ntmps44
    go_wp2_with (go_at_call 53; refine (Try.bits_Len _ _ (by omega) (by omega)).mono ?_; rintro e w' ⟨rfl, rfl⟩)
    go_ret
    exact ⟨ret_int (by rw [HC.out, ← HB.out]; unfold Lib.bitLen; omega), rfl⟩
theorem s_ClassOf (n : Int) (w : World) (h1 : -9223372036854775808 ≤ n) (h2 : n ≤ 9223372036854775807) :
    Calls Try.prog 45 #[.int .i64 n] w fun e w' => e = .returned (.int .i64 (cls n)) ∧ w = w' := by
  by_cases hn : n < 0
  · have hn2 : decide (0 < n) = false := by simp; omega
    go_enter Try.func45, Try.ntmps45
    go_wp2
    go_rounds 1
    go_ret
    exact ⟨ret_int (by rw [cls, if_pos hn]), rfl⟩
  · obtain ⟨m, rfl⟩ := Int.eq_ofNat_of_zero_le (show 0 ≤ n by omega)
    have HC := Lib.hid (show cls (m : Int) = halves 12 m by rw [cls, if_neg hn]; rfl)
    go_enter Try.func45, Try.ntmps45
    go_wp2
    go_loop [0, 3] (fun t c => ∃ q k : Nat, k ≤ 12 ∧ (q : Int) ≤ 9223372036854775807 ∧ t = .int .i64 q ∧ c = .int .i64 k ∧ Hid (k + halves (12 - k) q = halves 12 m)) (fun _ c => 12 - (intOf c).toNat)
    case atStart => exact ⟨m, 0, by omega, h2, rfl, rfl, Lib.hid (by simp)⟩
    case round =>
      obtain ⟨q, k, hk, hq, rfl, rfl, HK⟩ := hrel
      by_cases h0 : q = 0
      · subst h0
        go_wp2
        go_ret
        exact ⟨ret_int (by rw [HC.out, ← HK.out]; cases h : 12 - k <;> simp [halves]), rfl⟩
      · have h0' : 0 < q := by omega
        by_cases hk2 : k < 12
        · go_wp2
          go_round
          case rel =>
            refine ⟨q / 2, k + 1, by omega, by omega, by go_num, by go_num, Lib.hid ?_⟩
            rw [← HK.out, show 12 - k = (12 - (k + 1)) + 1 from by omega, halves, if_neg h0]; omega
          case measure => simp [intOf]; omega
        · obtain rfl : k = 12 := by omega
          go_wp2
          go_ret
          exact ⟨ret_int (by rw [HC.out, ← HK.out]; simp [halves]), rfl⟩
end Go.Proofs.Ytdgfngcfodccmaa
