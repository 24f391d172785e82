/- Contracts of ReceiverValid, of the program and of the reference. No condition but lists of at most 2^20 numbers. -/
import Derived.Test.YtalalapjanckdaaRcv
import Derived.Deep.RegionHeld3
namespace Go.Proofs.Ytalalapjanckdaa
open Go.RowKit
/-- The number at place k is where it may be. -/
def rOk (N R : Int) (hs : List Int) (k : Nat) : Bool := decide (N < hs.getD k 0) && decide (hs.getD k 0 < N + R) && (decide (k = 0) || decide (hs.getD (k - 1) 0 < hs.getD k 0))
/-- A receiver is valid. -/
def rv (N R : Int) (hs : List Int) : Bool := inB N 0 100000 && inB R 1 10 && (List.range hs.length).all (rOk N R hs)
theorem rv_not {N R : Int} {hs : List Int} {k : Nat} (hk : k < hs.length) (h : rOk N R hs k = false) : rv N R hs = false := by
  rw [← Bool.not_eq_true]
  intro h'
  simp only [rv, Bool.and_eq_true, List.all_eq_true, List.mem_range] at h'
  rw [h'.2 k hk] at h; cases h
theorem rv_out {N R : Int} {hs : List Int} (h : inB N 0 100000 = false ∨ inB R 1 10 = false) : rv N R hs = false := by
  unfold rv; rcases h with h | h <;> simp [h]
theorem rv_of {N R : Int} {hs : List Int} (h1 : inB N 0 100000 = true) (h2 : inB R 1 10 = true) (h : ∀ j, j < hs.length → rOk N R hs j = true) : rv N R hs = true := by
  have : (List.range hs.length).all (rOk N R hs) = true := by
    simp only [List.all_eq_true, List.mem_range]; exact h
  rw [rv, h1, h2, this]; rfl
theorem rOk_iff {N R : Int} {hs : List Int} {k : Nat} : rOk N R hs k = true ↔ N < hs.getD k 0 ∧ hs.getD k 0 < N + R ∧ (k = 0 ∨ hs.getD (k - 1) 0 < hs.getD k 0) := by
  simp only [rOk, Bool.and_eq_true, Bool.or_eq_true, decide_eq_true_eq, and_assoc]
theorem rOk_no {N R : Int} {hs : List Int} {k : Nat} (h : ¬ (N < hs.getD k 0 ∧ hs.getD k 0 < N + R ∧ (k = 0 ∨ hs.getD (k - 1) 0 < hs.getD k 0))) : rOk N R hs k = false := by
  rw [← Bool.not_eq_true, rOk_iff]; exact h
/-- The number ahead of place k. -/
def lastAt (N : Int) (hs : List Int) (k : Nat) : Int := if k = 0 then N else hs.getD (k - 1) 0
theorem lastAt_succ (N : Int) (hs : List Int) (k : Nat) : lastAt N hs (k + 1) = hs.getD k 0 := by simp [lastAt]
theorem rOk_last {N R : Int} {hs : List Int} {k : Nat} (hv : ∀ j, j < k → rOk N R hs j = true) : N ≤ lastAt N hs k ∧
    (hs.getD k 0 ≤ lastAt N hs k → rOk N R hs k = false) ∧ (N + R ≤ hs.getD k 0 → rOk N R hs k = false) ∧ (lastAt N hs k < hs.getD k 0 → hs.getD k 0 < N + R → rOk N R hs k = true) := by
  by_cases hk : k = 0
  · subst hk
    have e : lastAt N hs 0 = N := rfl
    rw [e]
    exact ⟨Int.le_refl _, fun h => rOk_no (by omega), fun h => rOk_no (by omega), fun h1 h2 => rOk_iff.2 ⟨h1, h2, .inl rfl⟩⟩
  · have e : lastAt N hs k = hs.getD (k - 1) 0 := by rw [lastAt, if_neg hk]
    have hp := (rOk_iff.1 (hv (k - 1) (by omega))).1
    rw [e]
    exact ⟨by omega, fun h => rOk_no (by omega), fun h => rOk_no (by omega), fun h1 h2 => rOk_iff.2 ⟨by omega, h2, .inr h1⟩⟩
theorem Ints.at {w : World} {a : Option Addr} {xs : List Int} {n k : Nat} (h : Ints w a xs) (hl : xs.length = n) (hk : k < n) :
    ∃ b off, a = some ⟨b, off, none⟩ ∧ b < w.heap.size ∧ ∀ j, j < n → w.cell? ⟨b, off + j, none⟩ = some (.int .i64 (xs.getD j 0)) := by
  rcases h with h | ⟨b, off, ha, hb, hc⟩
  · rw [h] at hl; simp at hl; omega
  · exact ⟨b, off, ha, hb, fun j hj => hc j (by omega)⟩
set_option maxHeartbeats 1000000 in
theorem c_ReceiverValid (N R : Int) (a : Option Addr) (n cap : Nat) (xs : List Int) (w : World) (hxs : xs.length = n) (hn : n ≤ 1048576) (h : Ints w a xs) :
    Calls Try.prog 33 #[.agg #[.int .i64 N, .int .i64 R, .slice a n cap]] w fun e w' => e = .returned (.bool (rv N R xs)) ∧ Below w.heap.size w w' := by
  have HX := Lib.hid hxs
  have HG : Hid (Below w.heap.size w (w.alloc (.cells #[.int .i64 N, .int .i64 R, .slice a n cap] 52))) := Lib.hid ((Below.refl _ _).alloc (Nat.le_refl _) _)
  have HI := Lib.hid (h.below HG.out)
  clear h hxs
  cases h1 : inB N 0 100000
  · have HR := Lib.hid (rv_out (N := N) (R := R) (hs := xs) (.inl h1))
    go_enter Try.func33, Try.ntmps33
    go_wp2_with (first | (go_at_call 70; refine (c_isTime _ _).mono ?_; rintro e w' ⟨rfl, rfl⟩) | (go_at_call 63; refine (c_in _ _ _ _).mono ?_; rintro e w' ⟨rfl, rfl⟩))
    go_ret
    exact ⟨ret_bool HR.out.symm, HG.out⟩
  cases h2 : inB R 1 10
  · have HR := Lib.hid (rv_out (N := N) (R := R) (hs := xs) (.inr h2))
    go_enter Try.func33, Try.ntmps33
    go_wp2_with (first | (go_at_call 70; refine (c_isTime _ _).mono ?_; rintro e w' ⟨rfl, rfl⟩) | (go_at_call 63; refine (c_in _ _ _ _).mono ?_; rintro e w' ⟨rfl, rfl⟩))
    go_ret
    exact ⟨ret_bool HR.out.symm, HG.out⟩
  have HT := Lib.hid (fun hv => rv_of (N := N) (R := R) (hs := xs) h1 h2 hv)
  obtain ⟨b1, b2⟩ := inB_true.1 h1
  obtain ⟨b3, b4⟩ := inB_true.1 h2
  go_enter Try.func33, Try.ntmps33
  go_wp2_with (first | (go_at_call 70; refine (c_isTime _ _).mono ?_; rintro e w' ⟨rfl, rfl⟩) | (go_at_call 63; refine (c_in _ _ _ _).mono ?_; rintro e w' ⟨rfl, rfl⟩))
  clear h1 h2
  go_loop [3, 21] (fun l i => ∃ (k : Nat), k ≤ n ∧ i = .int .i64 k ∧ l = .int .i64 (lastAt N xs k) ∧ Hid (∀ j, j < k → rOk N R xs j = true)) (fun _ i => n - (intOf i).toNat)
  case atStart => exact ⟨0, Nat.zero_le _, rfl, rfl, Lib.hid fun j hj => by omega⟩
  case round =>
    obtain ⟨k, hk, rfl, rfl, HV⟩ := hrel
    by_cases hlt : k < n
    · obtain ⟨b, off, rfl, hb, hc⟩ := HI.out.at HX.out hlt
      have c0 := hc k hlt
      clear hc
      obtain ⟨q0, q1, q2, q3⟩ := rOk_last HV.out
      have HS := Lib.hid (lastAt_succ N xs k)
      have Q1 := Lib.hid (fun h => rv_not (k := k) (by rw [HX.out]; exact hlt) (q1 h))
      have Q2 := Lib.hid (fun h => rv_not (k := k) (by rw [HX.out]; exact hlt) (q2 h))
      have Q3 := Lib.hid q3
      clear q1 q2 q3
      generalize xs.getD k 0 = x at *
      generalize lastAt N xs k = l at *
      by_cases g1 : x ≤ l
      · have HR := Lib.hid (Q1.out g1)
        go_wp2
        go_ret
        exact ⟨ret_bool HR.out.symm, HG.out⟩
      by_cases g2 : N + R ≤ x
      · have HR := Lib.hid (Q2.out g2)
        go_wp2
        go_ret
        exact ⟨ret_bool HR.out.symm, HG.out⟩
      have g3 : l < x := by omega
      have g4 : x < N + R := by omega
      have HK := Lib.hid (Q3.out g3 g4)
      go_wp2
      go_round
      case rel =>
        refine ⟨k + 1, by omega, by go_num, by rw [HS.out], Lib.hid fun j hj => ?_⟩
        by_cases hjk : j = k
        · subst hjk; exact HK.out
        · exact HV.out j (by omega)
      case measure => simp [intOf]; omega
    · obtain rfl : k = n := by omega
      have HR := Lib.hid (HT.out (by rw [HX.out]; exact HV.out))
      go_wp2
      go_ret
      exact ⟨ret_bool HR.out.symm, HG.out⟩
end Go.Proofs.Ytalalapjanckdaa
