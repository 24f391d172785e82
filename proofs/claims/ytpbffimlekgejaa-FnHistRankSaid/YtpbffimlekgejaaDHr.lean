/- The walk of the law FnHistRank: true for all bytes. No condition. -/
import Derived.Test.YtpbffimlekgejaaHist
import Derived.Test.YtpbffimlekgejaaShare
import Derived.Test.YtpbffimlekgejaaHistB
namespace Go.Proofs.Ytpbffimlekgejaa
open Go.RowKit
/-- A list of 12 or 13 numbers and a share; nothing that was there has turned. -/
def RetHS (w : World) (e : Ending) (w' : World) : Prop :=
  ∃ (b off : Nat) (xs : List Int) (s : Int), e = .returned (.tuple #[.slice (some ⟨b, off, none⟩) xs.length xs.length, .int .i64 s]) ∧ (xs.length = 12 ∨ xs.length = 13) ∧ -1 ≤ s ∧ s ≤ 101 ∧ Ints w' (some ⟨b, off, none⟩) xs ∧ Below w.heap.size w w'
theorem Ints.byOther {w w' : World} {b off g : Nat} {xs : List Int} (h : Ints w (some ⟨b, off, none⟩) xs) (hg : w.grownBy w' (some g)) (hb : b ≠ g) : Ints w' (some ⟨b, off, none⟩) xs := by
  rcases h with h | ⟨b', off', he, hlt, hc⟩
  · exact .inl h
  · injection he with he
    injection he with h1 h2
    subst h1 h2
    exact .inr ⟨b, off, rfl, Nat.lt_of_lt_of_le hlt hg.size, fun i hi => (World.cell?_of_block (hg.block b hlt (by simpa using hb))).trans (hc i hi)⟩
set_option maxHeartbeats 1000000 in
theorem s_DrawHistRank (a : Option Addr) (len cap : Nat) (w : World) (hcl : len ≤ cap) (hcap : cap ≤ maxLen) (h : Code w.heap.size w a len) :
    Calls Try.prog 32 #[.slice a len cap] w (RetHS w) := by
  have HC := Lib.hid h
  clear h
  go_enter Try.func32, Try.ntmps32
  go_wp2_with fail
  refine (c_open (D := w.heap.size) a len cap _ hcl hcap (by simp) HC.out).mono ?_
  rintro e w1 ⟨g, rfl, hg, hr, hb⟩
  have HR := Lib.hid hr
  have HB := Lib.hid hb
  have hz := hb.size
  clear hr hb
  go_wp2_with fail
  refine (s_l20Hist g 0 9 _ HR.out (by omega) (by omega) (by omega)).mono ?_
  rintro e w2 ⟨b, off, xs, rfl, hl, _, hI, hbl, ⟨p2, hp2, hr2⟩, hg2⟩
  have hlt := HR.out.lt
  have HG2 := Lib.hid hg2
  have HR2 := Lib.hid hr2
  have HI := Lib.hid hI
  clear hg2 hr2 hI
  go_wp2_with fail
  refine (s_l20Share g p2 _ HR2.out (by omega)).mono ?_
  rintro e w3 ⟨s, rfl, s1, s2, _, hg3⟩
  have q := HB.out.trans (gb_below (grownBy_tr HG2.out hg3) (by omega) (by omega))
  have hI3 := HI.out.byOther hg3 (by omega)
  clear hg3 HR HR2 HB HG2
  go_wp2_with fail
  refine bodyPost_ret (v := .tuple #[.slice (some ⟨b, off, none⟩) xs.length xs.length, .int .i64 s]) (by simp [results, Try.results32, go_sem]) rfl ?_
  exact ⟨b, off, xs, s, rfl, hl, s1, s2, hI3, q⟩
theorem rankFrom_spec (xs : List Int) (s all : Int) : ∀ f k, (rankFrom xs s all f k = -1 ∧ ∀ i, k ≤ i → i < k + f → 100 * sumTo xs (i + 1) < s * all) ∨
    ∃ j : Nat, rankFrom xs s all f k = (j : Int) ∧ k ≤ j ∧ j < k + f ∧ s * all ≤ 100 * sumTo xs (j + 1) ∧ ∀ i, k ≤ i → i < j → 100 * sumTo xs (i + 1) < s * all
  | 0, k => .inl ⟨rfl, fun i h1 h2 => by omega⟩
  | f + 1, k => by
    unfold rankFrom
    by_cases h : s * all ≤ 100 * sumTo xs (k + 1)
    · rw [if_pos h]
      exact .inr ⟨k, rfl, Nat.le_refl _, by omega, h, fun i h1 h2 => by omega⟩
    · rw [if_neg h]
      have hk : ∀ (P : Nat → Prop), P k → (∀ i, k + 1 ≤ i → P i) → ∀ i, k ≤ i → P i := fun P h0 h1 i hi => by
        by_cases e : i = k
        · subst e; exact h0
        · exact h1 i (by omega)
      rcases rankFrom_spec xs s all f (k + 1) with ⟨h1, h2⟩ | ⟨j, h1, h2, h3, h4, h5⟩
      · refine .inl ⟨h1, fun i hi1 hi2 => ?_⟩
        by_cases e : i = k
        · subst e; omega
        · exact h2 i (by omega) (by omega)
      · refine .inr ⟨j, h1, by omega, by omega, h4, fun i hi1 hi2 => ?_⟩
        by_cases e : i = k
        · subst e; omega
        · exact h5 i (by omega) hi2
theorem rank_law (xs : List Int) (s : Int) : rankV xs s = -1 ∨ ∃ j : Nat, rankV xs s = (j : Int) ∧ xs.length = 13 ∧ j ≤ 12 ∧ 0 < xs.getD j 0 ∧ ((rankV xs (s + 1) = -1 ∧ s = 100) ∨ (j : Int) ≤ rankV xs (s + 1)) := by
  unfold rankV
  by_cases hc : (hv xs && inB s 1 100) = true
  · rw [if_pos hc]
    simp only [Bool.and_eq_true] at hc
    obtain ⟨h1, h2⟩ := hc
    obtain ⟨h3, h4⟩ := inB_true.1 h2
    by_cases hs : 0 < sumTo xs 13
    · rw [if_pos hs]
      have hmul1 : 1 * sumTo xs 13 ≤ s * sumTo xs 13 := Int.mul_le_mul_of_nonneg_right h3 (by omega)
      have hmul2 : s * sumTo xs 13 ≤ 100 * sumTo xs 13 := Int.mul_le_mul_of_nonneg_right h4 (by omega)
      rcases rankFrom_spec xs s (sumTo xs 13) 13 0 with ⟨_, e2⟩ | ⟨j, e1, _, e3, e4, e5⟩
      · exfalso
        have := e2 12 (by omega) (by omega)
        simp only [Nat.reduceAdd] at this
        omega
      · refine .inr ⟨j, e1, hv_len h1, by omega, ?_, ?_⟩
        · have e6 : sumTo xs (j + 1) = sumTo xs j + xs.getD j 0 := rfl
          by_cases hj : j = 0
          · subst hj
            have e7 : sumTo xs 0 = 0 := rfl
            omega
          · have := e5 (j - 1) (by omega) (by omega)
            rw [Nat.sub_add_cancel (by omega)] at this
            omega
        · by_cases h100 : s = 100
          · left
            refine ⟨?_, h100⟩
            have : inB (s + 1) 1 100 = false := inB_false.2 (by omega)
            rw [this]; simp
          · right
            have h5 : inB (s + 1) 1 100 = true := inB_true.2 (by omega)
            rw [if_pos (by simp only [h1, h5, Bool.and_self]), if_pos hs]
            have hmul3 : (s + 1) * sumTo xs 13 ≤ 100 * sumTo xs 13 := Int.mul_le_mul_of_nonneg_right (by omega) (by omega)
            have hmul4 : s * sumTo xs 13 ≤ (s + 1) * sumTo xs 13 := Int.mul_le_mul_of_nonneg_right (by omega) (by omega)
            rcases rankFrom_spec xs (s + 1) (sumTo xs 13) 13 0 with ⟨_, f2⟩ | ⟨j', f1, _, f3, f4, _⟩
            · exfalso
              have := f2 12 (by omega) (by omega)
              simp only [Nat.reduceAdd] at this
              omega
            · rw [f1]
              by_cases hjj : j ≤ j'
              · omega
              · exfalso
                have := e5 j' (by omega) (by omega)
                omega
    · exact .inl (if_neg hs)
  · exact .inl (if_neg hc)
set_option maxHeartbeats 1000000 in
theorem walkHistRank (a : Option Addr) (n cap : Nat) (z : List Int) (w : World) (w0 : IsRow .u8 w a n cap z) :
    Calls Try.prog 11 #[.slice a n cap] w fun e w' => e = .returned (.bool true) ∧ Below w.heap.size w w' := by
  by_cases hbig : 1048576 < n
  · have hb' : (1048576 : Int) < (n : Int) := by omega
    go_enter Try.func11, Try.ntmps11
    go_wp2
    go_ret
    exact ⟨rfl, Below.refl _ _⟩
  have hn' : (n : Int) ≤ 1048576 := by omega
  obtain ⟨hcl, hcap⟩ := w0.caps
  have HC := Lib.hid w0.code
  clear w0 hbig
  go_enter Try.func11, Try.ntmps11
  go_wp2_with fail
  refine (s_DrawHistRank a n cap _ hcl hcap HC.out).mono ?_
  rintro e w1 ⟨b, off, xs, s, rfl, hl, s1, s2, hi, b1⟩
  have z1 := b1.size
  have Q1 := Lib.hid b1
  have I1 := Lib.hid hi
  clear b1 hi
  go_wp2_with fail
  refine (c_HistRank _ xs.length xs.length xs s _ rfl (by omega) I1.out).mono ?_; rintro e w2 ⟨rfl, rfl⟩
  go_wp2_with fail
  refine (s_HistRank _ xs.length xs.length xs s _ rfl (by omega) I1.out).mono ?_; rintro e w2 ⟨rfl, rfl⟩
  rcases rank_law xs s with hv | ⟨j, hv, hL, hj, hpos, hmore⟩
  · rw [hv]
    go_wp2_with fail
    refine (c_alive _).mono ?_; rintro e w6 ⟨rfl, b6⟩
    have Q6 := Below.step Q1.out b6 (by omega)
    go_wp2_with fail
    go_ret
    exact ⟨rfl, Q6⟩
  · rw [hv, hL]
    have HM := Lib.hid hmore
    clear hmore hl
    rcases I1.out with h0 | ⟨b', off', he, hb, hc⟩
    · rw [h0] at hL; simp at hL
    injection he with he
    injection he with h1 h2
    subst h1 h2
    have hcell := hc j (by omega)
    clear hc
    go_wp2_with fail
    refine (c_HistRank _ 13 13 xs (s + 1) _ hL (by omega) I1.out).mono ?_; rintro e w2 ⟨rfl, rfl⟩
    generalize rankV xs (s + 1) = u at *
    generalize xs.getD j 0 = v at *
    rcases HM.out with ⟨rfl, rfl⟩ | hu
    · go_wp2_with fail
      go_ret
      exact ⟨rfl, Q1.out⟩
    · by_cases hu1 : u = -1
      · omega
      · go_wp2_with fail
        go_ret
        exact ⟨rfl, Q1.out⟩
end Go.Proofs.Ytpbffimlekgejaa
