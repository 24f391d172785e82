/- Plain facts on receivers: the place of a number, and how the reference puts it in. No program in sight but the seat's own name. -/
import Derived.Test.YtalalapjanckdaaRcvP
namespace Go.Proofs.Ytalalapjanckdaa
open Go.RowKit
theorem place_lt (x : Int) : ∀ (xs : List Int), xs.Pairwise (· < ·) → ∀ j, j < xs.countP (· < x) → xs.getD j 0 < x
  | [], _, j, h => by simp at h
  | y :: t, hp, j, h => by
    obtain ⟨h1, h2⟩ := List.pairwise_cons.1 hp
    by_cases hy : y < x
    · cases j with
      | zero => simpa using hy
      | succ j =>
        rw [List.getD_cons_succ]
        refine place_lt x t h2 j ?_
        rw [List.countP_cons_of_pos (by simpa using hy)] at h; omega
    · have : (y :: t).countP (· < x) = 0 := by
        rw [List.countP_eq_zero]
        intro a ha
        rcases List.mem_cons.1 ha with rfl | ha
        · simpa using hy
        · have := h1 a ha; simp; omega
      omega
theorem place_ge (x : Int) : ∀ (xs : List Int), xs.Pairwise (· < ·) → xs.countP (· < x) < xs.length → x ≤ xs.getD (xs.countP (· < x)) 0
  | [], _, h => by simp at h
  | y :: t, hp, h => by
    obtain ⟨h1, h2⟩ := List.pairwise_cons.1 hp
    by_cases hy : y < x
    · rw [List.countP_cons_of_pos (by simpa using hy)] at h ⊢
      rw [List.getD_cons_succ]
      exact place_ge x t h2 (by simpa using h)
    · have e : (y :: t).countP (· < x) = 0 := by
        rw [List.countP_eq_zero]
        intro a ha
        rcases List.mem_cons.1 ha with rfl | ha
        · simpa using hy
        · have := h1 a ha; simp; omega
      rw [e]; simp; omega
theorem place_le (x : Int) (xs : List Int) : xs.countP (· < x) ≤ xs.length := List.countP_le_length
theorem place_in {x : Int} {xs : List Int} (hp : xs.Pairwise (· < ·)) (h : xs.contains x = true) : xs.countP (· < x) < xs.length ∧ xs.getD (xs.countP (· < x)) 0 = x := by
  rw [List.contains_iff_mem] at h
  obtain ⟨j, hj, e⟩ := List.mem_iff_getElem.1 h
  have hl := place_lt x xs hp
  have hge : xs.countP (· < x) ≤ j := by
    rcases Nat.lt_or_ge j (xs.countP (· < x)) with h | h
    · have := hl j h; rw [getD_of hj] at this; omega
    · exact h
  have hK : xs.countP (· < x) < xs.length := by omega
  refine ⟨hK, ?_⟩
  have hg := place_ge x xs hp hK
  rcases Nat.lt_or_ge (xs.countP (· < x)) j with h | h
  · have := List.pairwise_iff_getElem.1 hp _ _ hK hj h
    rw [getD_of hK] at hg; omega
  · have : j = xs.countP (· < x) := by omega
    rw [← this, getD_of hj]; exact e
theorem place_out {x : Int} {xs : List Int} (h : xs.contains x = false) (hK : xs.countP (· < x) < xs.length) : xs.getD (xs.countP (· < x)) 0 ≠ x := by
  intro e
  have : xs.contains x = true := by
    rw [List.contains_iff_mem, ← e, getD_of hK]; exact List.getElem_mem _
  rw [h] at this; cases this
/-- The reference's way to put a number in, and to hand on what follows without a gap. -/
def insL (N : Int) (xs : List Int) (x : Int) : Nat := runLen (N - 1) (insV xs (xs.countP (· < x)) x)
theorem rcv_ins {N R : Int} {xs : List Int} {x : Int} (h : rv N R xs = true) (h1 : N ≤ x) (h2 : xs.contains x = false) (h3 : x < N + R) :
    rcv N R xs x = if 100000 < N + (insL N xs x : Int) then (N, R, xs, [], false) else (N + (insL N xs x : Int), R, (insV xs (xs.countP (· < x)) x).drop (insL N xs x), upFrom N (insL N xs x), true) := by
  obtain ⟨⟨b1, b2⟩, ⟨b3, b4⟩, h5, h6⟩ := (rv_iff N R xs).1 h
  by_cases h4 : N < x
  · rw [rcv_in h h2 h3 h4]
    have e : insL N xs x = 0 := by
      unfold insL
      generalize hK : xs.countP (· < x) = K
      cases K with
      | zero =>
        simp only [insV, List.take_zero, List.nil_append, runLen]
        rw [if_neg (by omega)]
      | succ K =>
        have hKl := place_le x xs
        cases xs with
        | nil => simp at hK
        | cons y t =>
          have := (h5 y (List.mem_cons_self ..)).1
          simp only [insV, List.take_succ_cons, List.cons_append, runLen]
          rw [if_neg (by omega)]
    rw [e, if_neg (by simp; omega)]
    simp [upFrom]
  · obtain rfl : x = N := by omega
    have hK : xs.countP (· < x) = 0 := by
      rw [List.countP_eq_zero]
      intro a ha
      have := (h5 a ha).1; simp; omega
    have e : insL x xs x = runLen x xs + 1 := by
      simp only [insL, hK, insV, List.take_zero, List.nil_append, List.drop_zero, runLen]
      rw [if_pos (by omega), show x - 1 + 1 = x by omega]
    rw [e, hK]
    by_cases h9 : 100000 < x + ((runLen x xs + 1 : Nat) : Int)
    · rw [if_pos h9, rcv_end h h2 (by omega) h9]
    · rw [if_neg h9, rcv_on h h2 (by omega) h9]
      simp [insV]
end Go.Proofs.Ytalalapjanckdaa
