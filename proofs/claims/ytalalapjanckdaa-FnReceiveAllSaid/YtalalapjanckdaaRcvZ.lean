/- Plain facts on receivers: what stays valid, what the same number does again, and that numbers are handed on without gaps. No program in sight but the seat's own name. -/
import Derived.Test.YtalalapjanckdaaRcvQ
namespace Go.Proofs.Ytalalapjanckdaa
open Go.RowKit
theorem upFrom_app (N : Int) (a b : Nat) : upFrom N a ++ upFrom (N + (a : Int)) b = upFrom N (a + b) := by
  rw [upFrom, upFrom, upFrom, List.range_add, List.map_append, List.map_map]
  congr 1
  apply List.map_congr_left
  intro j _
  simp; omega
theorem asc_at (N : Int) : ∀ (hs : List Int), hs.Pairwise (· < ·) → (∀ x ∈ hs, N < x) → ∀ j, j < hs.length → N + 1 + (j : Int) ≤ hs.getD j 0
  | [], _, _, j, h => by simp at h
  | y :: t, hp, h1, j, h => by
    obtain ⟨hy, hp'⟩ := List.pairwise_cons.1 hp
    have h0 := h1 y (by simp)
    cases j with
    | zero => simp; omega
    | succ j =>
      have := asc_at y t hp' hy j (by simpa using h)
      rw [List.getD_cons_succ]; omega
theorem rv_on {N R : Int} {hs : List Int} (h : rv N R hs = true) (h5 : ¬ 100000 < N + (runLen N hs + 1 : Nat)) : rv (N + (runLen N hs + 1 : Nat)) R (hs.drop (runLen N hs)) = true := by
  obtain ⟨⟨b1, b2⟩, ⟨b3, b4⟩, h6, h7⟩ := (rv_iff N R hs).1 h
  have hle := runLen_le hs N
  refine (rv_iff _ _ _).2 ⟨⟨by omega, by omega⟩, ⟨b3, b4⟩, fun x hx => ?_, ?_⟩
  · obtain ⟨j, hj, rfl⟩ := List.mem_iff_getElem.1 hx
    rw [List.length_drop] at hj
    rw [List.getElem_drop]
    have hlt : runLen N hs + j < hs.length := by omega
    have hx2 := h6 _ (List.getElem_mem hlt)
    have hst := runLen_stop hs N (by omega)
    have h0 := asc_at N hs h7 (fun u hu => (h6 u hu).1) (runLen N hs) (by omega)
    have : N + 1 + (runLen N hs : Int) < hs[runLen N hs + j] := by
      by_cases hj0 : j = 0
      · subst hj0
        have e : hs.getD (runLen N hs) 0 = hs[runLen N hs + 0] := getD_of (by omega)
        rw [e] at hst h0; omega
      · have hp := List.pairwise_iff_getElem.1 h7 (runLen N hs) (runLen N hs + j) (by omega) hlt (by omega)
        rw [getD_of (by omega)] at h0; omega
    exact ⟨by omega, by omega⟩
  · exact h7.sublist (List.drop_sublist _ _)
theorem insV_sorted {hs : List Int} {n : Int} (h7 : hs.Pairwise (· < ·)) (h2 : hs.contains n = false) : (insV hs (hs.countP (· < n)) n).Pairwise (· < ·) := by
  have hlt := place_lt n hs h7
  have hall : ∀ x ∈ hs.drop (hs.countP (· < n)), n < x := by
    intro x hx
    obtain ⟨j, hj, rfl⟩ := List.mem_iff_getElem.1 hx
    rw [List.length_drop] at hj
    rw [List.getElem_drop]
    have hk : hs.countP (· < n) < hs.length := by omega
    have hg := place_ge n hs h7 hk
    have ho := place_out (x := n) h2 hk
    rw [getD_of hk] at hg ho
    by_cases hj0 : j = 0
    · subst hj0
      simp only [Nat.add_zero]; omega
    · have hp := List.pairwise_iff_getElem.1 h7 _ (hs.countP (· < n) + j) hk (by omega) (by omega)
      omega
  have htake : ∀ x ∈ hs.take (hs.countP (· < n)), x < n := by
    intro x hx
    obtain ⟨j, hj, rfl⟩ := List.mem_iff_getElem.1 hx
    rw [List.length_take] at hj
    rw [List.getElem_take]
    have := hlt j (by omega)
    rwa [getD_of (by omega)] at this
  unfold insV
  rw [List.pairwise_append]
  refine ⟨h7.sublist (List.take_sublist _ _), List.pairwise_cons.2 ⟨hall, h7.sublist (List.drop_sublist _ _)⟩, fun x hx y hy => ?_⟩
  have h1 := htake x hx
  rcases List.mem_cons.1 hy with rfl | hy
  · exact h1
  · have := hall y hy; omega
theorem insV_mem {hs : List Int} {i : Nat} {n x : Int} (h : x ∈ insV hs i n) : x = n ∨ x ∈ hs := by
  unfold insV at h
  rcases List.mem_append.1 h with h | h
  · exact .inr (List.mem_of_mem_take h)
  · rcases List.mem_cons.1 h with h | h
    · exact .inl h
    · exact .inr (List.mem_of_mem_drop h)
theorem rv_in {N R : Int} {hs : List Int} {n : Int} (h : rv N R hs = true) (h2 : hs.contains n = false) (h3 : n < N + R) (h4 : N < n) : rv N R (insV hs (hs.countP (· < n)) n) = true := by
  obtain ⟨h5, h6, h7, h8⟩ := (rv_iff N R hs).1 h
  refine (rv_iff _ _ _).2 ⟨h5, h6, fun x hx => ?_, insV_sorted h8 h2⟩
  rcases insV_mem hx with rfl | hx
  · exact ⟨h4, h3⟩
  · exact h7 x hx
/-- The ways of a valid receiver. -/
theorem rcv_ways {N R : Int} {hs : List Int} {n : Int} (h : rv N R hs = true) :
    (rcv N R hs n = (N, R, hs, [], true) ∧ (n < N ∨ hs.contains n = true)) ∨ rcv N R hs n = (N, R, hs, [], false) ∨
    (rcv N R hs n = (N, R, insV hs (hs.countP (· < n)) n, [], true) ∧ rv N R (insV hs (hs.countP (· < n)) n) = true) ∨
    (n = N ∧ rcv N R hs n = (N + (runLen N hs + 1 : Nat), R, hs.drop (runLen N hs), upFrom N (runLen N hs + 1), true) ∧ rv (N + (runLen N hs + 1 : Nat)) R (hs.drop (runLen N hs)) = true) := by
  obtain ⟨_, ⟨b3, _⟩, _, _⟩ := (rv_iff N R hs).1 h
  by_cases h1 : n < N
  · exact .inl ⟨rcv_same h (.inl h1), .inl h1⟩
  cases h2 : hs.contains n
  · by_cases h3 : N + R ≤ n
    · exact .inr (.inl (rcv_far h h1 h2 h3))
    · by_cases h4 : N < n
      · exact .inr (.inr (.inl ⟨rcv_in h h2 (by omega) h4, rv_in h h2 (by omega) h4⟩))
      · obtain rfl : n = N := by omega
        by_cases h5 : 100000 < n + (runLen n hs + 1 : Nat)
        · exact .inr (.inl (rcv_end h h2 (by omega) h5))
        · exact .inr (.inr (.inr ⟨rfl, rcv_on h h2 (by omega) h5, rv_on h h5⟩))
  · exact .inl ⟨rcv_same h (.inr h2), .inr rfl⟩
/-- What a valid receiver becomes is valid; what is handed on begins with the number that was wanted, without gaps, up to the one that is wanted then. -/
theorem rcv_law {N R : Int} {hs : List Int} {n v1 v2 : Int} {v3 v4 : List Int} {v5 : Bool} (h : rv N R hs = true) (hv : rcv N R hs n = (v1, v2, v3, v4, v5)) :
    rv v1 v2 v3 = true ∧ v4 = upFrom N v4.length ∧ v1 = N + (v4.length : Int) ∧ (v5 = true → rcv v1 v2 v3 n = (v1, v2, v3, [], true)) ∧ (v5 = false → v1 = N ∧ v2 = R ∧ v3 = hs ∧ v4 = []) := by
  rcases rcv_ways (n := n) h with ⟨e, hc⟩ | e | ⟨e, hr⟩ | ⟨rfl, e, hr⟩
  · rw [e] at hv; cases hv
    exact ⟨h, by simp [upFrom], by simp, fun _ => rcv_same h hc, fun h => by cases h⟩
  · rw [e] at hv; cases hv
    exact ⟨h, by simp [upFrom], by simp, (fun h => by cases h), fun _ => ⟨rfl, rfl, rfl, rfl⟩⟩
  · rw [e] at hv; cases hv
    refine ⟨hr, by simp [upFrom], by simp, fun _ => rcv_same hr (.inr ?_), fun h => by cases h⟩
    rw [List.contains_iff_mem, insV]; simp
  · rw [e] at hv; cases hv
    exact ⟨hr, by rw [upFrom_len], by rw [upFrom_len], fun _ => rcv_same hr (.inl (by omega)), fun h => by cases h⟩
theorem rcv_no {N R : Int} {hs : List Int} {n v1 v2 : Int} {v3 v4 : List Int} {v5 : Bool} (h : rv N R hs = false) (hv : rcv N R hs n = (v1, v2, v3, v4, v5)) : v1 = 0 ∧ v2 = 0 ∧ v3 = [] ∧ v4 = [] ∧ v5 = false := by
  rw [rcv_bad h] at hv; cases hv; exact ⟨rfl, rfl, rfl, rfl, rfl⟩
end Go.Proofs.Ytalalapjanckdaa
