/- Plain facts on receivers: what a receiver becomes when a number comes. No program in sight but the seat's own name. -/
import Derived.Test.YtalalapjanckdaaIns
namespace Go.Proofs.Ytalalapjanckdaa
open Go.RowKit
/-- How many numbers follow N without a gap. -/
def runLen : Int → List Int → Nat
  | _, [] => 0
  | N, x :: t => if x = N + 1 then runLen (N + 1) t + 1 else 0
theorem runLen_le : ∀ (hs : List Int) (N : Int), runLen N hs ≤ hs.length
  | [], _ => Nat.le_refl _
  | x :: t, N => by
    rw [runLen]; split
    · have := runLen_le t (N + 1); simp; omega
    · simp
theorem runLen_at : ∀ (hs : List Int) (N : Int) (j : Nat), j < runLen N hs → hs.getD j 0 = N + 1 + j
  | [], _, j, h => by simp [runLen] at h
  | x :: t, N, j, h => by
    rw [runLen] at h
    split at h
    · rename_i hx
      cases j with
      | zero => simpa using hx
      | succ j =>
        have := runLen_at t (N + 1) j (by omega)
        rw [List.getD_cons_succ, this]; omega
    · omega
theorem runLen_stop : ∀ (hs : List Int) (N : Int), runLen N hs < hs.length → hs.getD (runLen N hs) 0 ≠ N + 1 + (runLen N hs : Int)
  | [], _, h => by simp [runLen] at h
  | x :: t, N, h => by
    rw [runLen] at h ⊢
    split at h
    · rename_i hx
      rw [if_pos hx]
      have := runLen_stop t (N + 1) (by simpa using h)
      rw [List.getD_cons_succ]
      intro e; apply this; rw [e]; omega
    · rename_i hx
      rw [if_neg hx]
      intro e; apply hx; simpa using e
/-- What a receiver becomes when a number comes: next, room, what is held, what is handed on, and whether it was taken. -/
def rcv (N R : Int) (hs : List Int) (n : Int) : Int × Int × List Int × List Int × Bool :=
  if rv N R hs = false then (0, 0, [], [], false)
  else if n < N ∨ hs.contains n = true then (N, R, hs, [], true)
  else if N + R ≤ n then (N, R, hs, [], false)
  else if N < n then (N, R, insV hs (hs.countP (· < n)) n, [], true)
  else if 100000 < N + (runLen N hs + 1 : Nat) then (N, R, hs, [], false)
  else (N + (runLen N hs + 1 : Nat), R, hs.drop (runLen N hs), upFrom N (runLen N hs + 1), true)
theorem rcv_bad {N R : Int} {hs : List Int} {n : Int} (h : rv N R hs = false) : rcv N R hs n = (0, 0, [], [], false) := by rw [rcv, if_pos h]
theorem rcv_same {N R : Int} {hs : List Int} {n : Int} (h : rv N R hs = true) (h1 : n < N ∨ hs.contains n = true) : rcv N R hs n = (N, R, hs, [], true) := by
  rw [rcv, if_neg (by simp [h]), if_pos h1]
theorem rcv_far {N R : Int} {hs : List Int} {n : Int} (h : rv N R hs = true) (h1 : ¬ n < N) (h2 : hs.contains n = false) (h3 : N + R ≤ n) : rcv N R hs n = (N, R, hs, [], false) := by
  rw [rcv, if_neg (by simp [h]), if_neg (fun e => e.elim h1 (fun e2 => by rw [h2] at e2; cases e2)), if_pos h3]
theorem rcv_in {N R : Int} {hs : List Int} {n : Int} (h : rv N R hs = true) (h2 : hs.contains n = false) (h3 : n < N + R) (h4 : N < n) : rcv N R hs n = (N, R, insV hs (hs.countP (· < n)) n, [], true) := by
  rw [rcv, if_neg (by simp [h]), if_neg (fun e => e.elim (by omega) (fun e2 => by rw [h2] at e2; cases e2)), if_neg (by omega), if_pos h4]
theorem rcv_end {N R : Int} {hs : List Int} (h : rv N R hs = true) (h2 : hs.contains N = false) (hR : 0 < R) (h5 : 100000 < N + (runLen N hs + 1 : Nat)) : rcv N R hs N = (N, R, hs, [], false) := by
  rw [rcv, if_neg (by simp [h]), if_neg (fun e => e.elim (by omega) (fun e2 => by rw [h2] at e2; cases e2)), if_neg (by omega), if_neg (by omega), if_pos h5]
theorem rcv_on {N R : Int} {hs : List Int} (h : rv N R hs = true) (h2 : hs.contains N = false) (hR : 0 < R) (h5 : ¬ 100000 < N + (runLen N hs + 1 : Nat)) : rcv N R hs N = (N + (runLen N hs + 1 : Nat), R, hs.drop (runLen N hs), upFrom N (runLen N hs + 1), true) := by
  rw [rcv, if_neg (by simp [h]), if_neg (fun e => e.elim (by omega) (fun e2 => by rw [h2] at e2; cases e2)), if_neg (by omega), if_neg (by omega), if_neg h5]
theorem getD_of {hs : List Int} {k : Nat} (h : k < hs.length) : hs.getD k 0 = hs[k] := by
  rw [List.getD_eq_getElem?_getD, List.getElem?_eq_getElem h]; rfl
theorem rv_iff (N R : Int) (hs : List Int) : rv N R hs = true ↔ (0 ≤ N ∧ N ≤ 100000) ∧ (1 ≤ R ∧ R ≤ 10) ∧ (∀ x ∈ hs, N < x ∧ x < N + R) ∧ hs.Pairwise (· < ·) := by
  constructor
  · intro h
    simp only [rv, Bool.and_eq_true, List.all_eq_true, List.mem_range] at h
    obtain ⟨⟨h1, h2⟩, h3⟩ := h
    have hk : ∀ k, k < hs.length → N < hs.getD k 0 ∧ hs.getD k 0 < N + R ∧ (k = 0 ∨ hs.getD (k - 1) 0 < hs.getD k 0) := fun k hk => rOk_iff.1 (h3 k hk)
    have hlt : ∀ d i, i + 1 + d < hs.length → hs.getD i 0 < hs.getD (i + 1 + d) 0 := by
      intro d
      induction d with
      | zero => intro i hi; have := (hk (i + 1) hi).2.2.resolve_left (by omega); simpa using this
      | succ d ih =>
        intro i hi
        have a := ih i (by omega)
        have b := (hk (i + 1 + (d + 1)) hi).2.2.resolve_left (by omega)
        rw [show i + 1 + (d + 1) - 1 = i + 1 + d from by omega] at b
        omega
    refine ⟨inB_true.1 h1, inB_true.1 h2, fun x hx => ?_, ?_⟩
    · obtain ⟨k, hk', rfl⟩ := List.mem_iff_getElem.1 hx
      rw [← getD_of hk']; exact ⟨(hk k hk').1, (hk k hk').2.1⟩
    · rw [List.pairwise_iff_getElem]
      intro i j hi hj hij
      have := hlt (j - i - 1) i (by omega)
      rw [show i + 1 + (j - i - 1) = j from by omega, getD_of hi, getD_of hj] at this
      exact this
  · rintro ⟨h1, h2, h3, h4⟩
    refine rv_of (inB_true.2 h1) (inB_true.2 h2) fun j hj => rOk_iff.2 ?_
    rw [getD_of hj]
    refine ⟨(h3 _ (List.getElem_mem hj)).1, (h3 _ (List.getElem_mem hj)).2, ?_⟩
    by_cases h0 : j = 0
    · exact .inl h0
    · right
      rw [getD_of (by omega : j - 1 < hs.length)]
      exact (List.pairwise_iff_getElem.1 h4) (j - 1) j (by omega) hj (by omega)
theorem rv_le {N R : Int} {hs : List Int} (h : rv N R hs = true) : hs.Pairwise (· ≤ ·) := ((rv_iff N R hs).1 h).2.2.2.imp (fun h => by omega)
end Go.Proofs.Ytalalapjanckdaa
