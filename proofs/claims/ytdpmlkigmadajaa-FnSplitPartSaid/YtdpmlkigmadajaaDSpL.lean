/- The walk of the law FnSplitPart: true for all bytes. No condition. -/
import Derived.Test.YtdpmlkigmadajaaDSpp
import Derived.Test.YtdpmlkigmadajaaSplitC
namespace Go.Proofs.Ytdpmlkigmadajaa
open Go.RowKit
theorem fpFrom_spec (xs : List Int) (h : Int) : ∀ (f k : Nat), 0 ≤ fpFrom xs h f k → ∃ m : Nat, fpFrom xs h f k = (m : Int) ∧ k ≤ m ∧ m < k + f ∧ h < sumTo xs (m + 1) ∧ ∀ j, k ≤ j → j < m → sumTo xs (j + 1) ≤ h
  | 0, k, hp => by simp [fpFrom] at hp
  | f + 1, k, hp => by
    unfold fpFrom at hp ⊢
    by_cases hc : h < sumTo xs (k + 1)
    · rw [if_pos hc]
      exact ⟨k, rfl, Nat.le_refl _, by omega, hc, fun j h1 h2 => by omega⟩
    · rw [if_neg hc] at hp ⊢
      obtain ⟨m, h1, h2, h3, h4, h5⟩ := fpFrom_spec xs h f (k + 1) hp
      refine ⟨m, h1, by omega, by omega, h4, fun j j1 j2 => ?_⟩
      by_cases hjk : j = k
      · subst hjk; omega
      · exact h5 j (by omega) j2
theorem fpFrom_neg (xs : List Int) (h : Int) : ∀ (f k : Nat), -1 ≤ fpFrom xs h f k
  | 0, k => by simp [fpFrom]
  | f + 1, k => by
    unfold fpFrom
    split
    · omega
    · exact fpFrom_neg xs h f (k + 1)
/-- The part of a key: it has a share; it is the first just where the key is among the first share. -/
theorem part_law (key : Int) (xs : List Int) : partV key xs = -1 ∨ ∃ m : Nat, partV key xs = (m : Int) ∧ m < xs.length ∧ 0 < xs.getD m 0 ∧ splitB key (xs.getD 0 0) = decide (m = 0) := by
  unfold partV
  by_cases hc : (inB key 0 1000002 && inB xs.length 1 10 && shOk xs && decide (sumTo xs xs.length = 100)) = true
  · rw [if_pos hc]
    simp only [Bool.and_eq_true, decide_eq_true_eq] at hc
    obtain ⟨⟨⟨h1, h2⟩, h3⟩, h4⟩ := hc
    have hph := ph_bd h1
    have hg := fpFrom_neg xs (ph key) xs.length 0
    rcases Int.lt_or_le (fpFrom xs (ph key) xs.length 0) 0 with h | h
    · exact .inl (by omega)
    · obtain ⟨m, e1, e2, e3, e4, e5⟩ := fpFrom_spec xs (ph key) xs.length 0 h
      have hl := inB_true.1 h2
      have h0 := all_get h3 (k := 0) (by omega)
      refine .inr ⟨m, e1, by omega, ?_, ?_⟩
      · by_cases hm : m = 0
        · subst hm; simp only [sumTo] at e4; omega
        · have := e5 (m - 1) (by omega) (by omega)
          rw [show m - 1 + 1 = m from by omega] at this
          simp only [sumTo] at e4; omega
      · unfold splitB
        rw [h1, inB_true.2 h0]
        by_cases hm : m = 0
        · subst hm
          simp only [sumTo] at e4
          rw [decide_eq_true (show ph key < xs.getD 0 0 by omega)]; rfl
        · have := e5 0 (by omega) (by omega)
          simp only [sumTo] at this
          rw [decide_eq_false (show ¬ ph key < xs.getD 0 0 by omega), decide_eq_false hm]; rfl
  · rw [if_neg hc]; exact .inl rfl
set_option maxHeartbeats 1000000 in
theorem walkSplitPart (a : Option Addr) (n cap : Nat) (z : List Int) (w : World) (w0 : IsRow .u8 w a n cap z) :
    Calls Try.prog 7 #[.slice a n cap] w fun e w' => e = .returned (.bool true) ∧ Below w.heap.size w w' := by
  by_cases hbig : 1048576 < n
  · have hb' : (1048576 : Int) < (n : Int) := by omega
    go_enter Try.func7, Try.ntmps7
    go_wp2
    go_ret
    exact ⟨rfl, Below.refl _ _⟩
  have hn' : (n : Int) ≤ 1048576 := by omega
  obtain ⟨hcl, hcap⟩ := w0.caps
  have HC := Lib.hid w0.code
  clear w0 hbig
  go_enter Try.func7, Try.ntmps7
  go_wp2_with fail
  refine (s_DrawSplitPart a n cap _ hcl hcap HC.out).mono ?_
  rintro e w1 ⟨key, b, c, xs, rfl, k1, k2, hl, hx, hI, b1⟩
  have z1 := b1.size
  have D1 := Lib.hid b1
  have I1 := Lib.hid hI
  clear b1 hI hx
  go_wp2_with fail
  refine (c_SplitPart key _ _ _ xs _ rfl (by omega) I1.out).mono ?_; rintro e w2 ⟨rfl, b2⟩
  have z2 := b2.size
  have D2 := Lib.hid (Below.step D1.out b2 z1)
  have I2 := Lib.hid (I1.out.below b2)
  clear b2
  go_wp2_with fail
  refine (s_SplitPart key _ _ _ xs _ rfl (by omega) I2.out).mono ?_; rintro e w3 ⟨rfl, b3⟩
  have z3 := b3.size
  have D3 := Lib.hid (Below.step D2.out b3 (by omega))
  have I3 := Lib.hid (I2.out.below b3)
  clear b3
  rcases part_law key xs with hp | ⟨m, hp, hm, hpos, hsp⟩
  · rw [hp]
    clear hp
    go_wp2_with fail
    refine (c_alive _).mono ?_; rintro e w4 ⟨rfl, b4⟩
    have Q4 := Below.step D3.out b4 (by omega)
    go_wp2_with fail
    go_ret
    exact ⟨rfl, Q4⟩
  · rw [hp]
    clear hp
    rcases I3.out with h0 | ⟨b', off, ha, hb, hcell⟩
    · rw [h0] at hm; simp at hm
    injection ha with ha
    injection ha with ha1 ha2
    subst ha1 ha2
    have c0 := hcell 0 (by omega)
    have c1 := hcell m hm
    rw [Nat.zero_add] at c0 c1
    have hm' : (m : Int) < (xs.length : Int) := by omega
    have hl0 : (0 : Int) < (xs.length : Int) := by omega
    clear hcell
    have HSP := Lib.hid hsp
    clear hsp
    by_cases hm0 : m = 0
    · subst hm0
      have HS2 : Hid (splitB key (xs.getD 0 0) = true) := Lib.hid (by rw [HSP.out]; rfl)
      clear HSP c1
      generalize xs.getD 0 0 = x at *
      go_wp2_with fail
      refine (c_SplitKey key x _).mono ?_; rintro e w4 ⟨rfl, b4⟩
      have Q4 := Below.step D3.out b4 (by omega)
      rw [HS2.out]
      go_wp2_with fail
      go_ret
      exact ⟨rfl, Q4⟩
    · have HS2 : Hid (splitB key (xs.getD 0 0) = false) := Lib.hid (by rw [HSP.out]; exact decide_eq_false hm0)
      have hmb : ((m : Int) == 0) = false := beq_eq_false_iff_ne.2 (by omega)
      clear HSP
      generalize xs.getD 0 0 = x at *
      generalize xs.getD m 0 = y at *
      clear hm0
      go_wp2_with fail
      refine (c_SplitKey key x _).mono ?_; rintro e w4 ⟨rfl, b4⟩
      have Q4 := Below.step D3.out b4 (by omega)
      rw [HS2.out]
      go_wp2_with fail
      go_ret
      exact ⟨rfl, Q4⟩
end Go.Proofs.Ytdpmlkigmadajaa
