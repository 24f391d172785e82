/- Plain facts on the mean that is learned: it lies between the least time and the greatest one; one answer more is one step more. No program in sight but the seat's own name. -/
import Derived.Test.YtdpmlkigmadajaaRun2
namespace Go.Proofs.Ytdpmlkigmadajaa
open Go.RowKit
theorem quoT8 (d : Int) : (0 ≤ d → 0 ≤ quoT d 8 ∧ quoT d 8 ≤ d) ∧ (d ≤ 0 → d ≤ quoT d 8 ∧ quoT d 8 ≤ 0) := by
  unfold quoT; split <;> omega
theorem quoT4 (d : Int) : (0 ≤ d → 0 ≤ quoT d 4 ∧ quoT d 4 ≤ d) ∧ (d ≤ 0 → d ≤ quoT d 4 ∧ quoT d 4 ≤ 0) := by
  unfold quoT; split <;> omega
theorem step_law {m s k : Int} (h : tv m s = true) (h2 : inB k 0 10000 = true) : tv (stepM m s k) (stepS m s k) = true ∧ min m k ≤ stepM m s k ∧ stepM m s k ≤ max m k := by
  obtain ⟨h1, h3, h4, h5⟩ := tv_bd h
  obtain ⟨h6, h7⟩ := inB_true.1 h2
  have hM : stepM m s k = m + quoT (k - m) 8 := by simp [stepM, h, h2]
  have hS : stepS m s k = s + quoT (max (k - m) (m - k) - s) 4 := by simp [stepS, h, h2]
  obtain ⟨a1, a2⟩ := quoT8 (k - m)
  obtain ⟨b1, b2⟩ := quoT4 (max (k - m) (m - k) - s)
  rw [hM, hS]
  have e1 : min m k ≤ m + quoT (k - m) 8 ∧ m + quoT (k - m) 8 ≤ max m k := by
    rcases Int.le_total m k with h | h
    · have := a1 (by omega); omega
    · have := a2 (by omega); omega
  have e2 : 0 ≤ s + quoT (max (k - m) (m - k) - s) 4 ∧ s + quoT (max (k - m) (m - k) - s) 4 ≤ 10000 := by
    rcases Int.le_total s (max (k - m) (m - k)) with h | h
    · have := b1 (by omega); omega
    · have := b2 (by omega); omega
  refine ⟨?_, e1.1, e1.2⟩
  simp only [tv, Bool.and_eq_true, inB_true]; omega
theorem fold_between (lo hi : Int) : ∀ (r : List Int) (m s : Int), tv m s = true → lo ≤ m → m ≤ hi → (∀ y ∈ r, lo ≤ y ∧ y ≤ hi ∧ inB y 0 10000 = true) → lo ≤ (r.foldl stepP (m, s)).1 ∧ (r.foldl stepP (m, s)).1 ≤ hi
  | [], m, s, _, h1, h2, _ => ⟨h1, h2⟩
  | y :: r, m, s, h, h1, h2, hr => by
    obtain ⟨y1, y2, y3⟩ := hr y List.mem_cons_self
    obtain ⟨t1, t2, t3⟩ := step_law h y3
    exact fold_between lo hi r (stepM m s y) (stepS m s y) t1 (by omega) (by omega) fun z hz => hr z (List.mem_cons_of_mem _ hz)
/-- What is known of the least time and the greatest one after the first k. -/
def Rng (xs : List Int) (k : Nat) (lo hi : Int) : Prop := lo ∈ xs ∧ hi ∈ xs ∧ ∀ j, j < k → lo ≤ xs.getD j 0 ∧ xs.getD j 0 ≤ hi
theorem getD_in {xs : List Int} {j : Nat} (h : j < xs.length) : xs.getD j 0 ∈ xs := by
  rw [List.getD_eq_getElem?_getD, List.getElem?_eq_getElem h]; exact List.getElem_mem _
theorem Rng.start {xs : List Int} (h : 0 < xs.length) : Rng xs 0 (xs.getD 0 0) (xs.getD 0 0) := ⟨getD_in h, getD_in h, fun j hj => by omega⟩
theorem Rng.next {xs : List Int} {k : Nat} {lo hi : Int} (h : Rng xs k lo hi) (hk : k < xs.length) : Rng xs (k + 1) (min lo (xs.getD k 0)) (max hi (xs.getD k 0)) := by
  obtain ⟨h1, h2, h3⟩ := h
  refine ⟨?_, ?_, fun j hj => ?_⟩
  · rcases Int.le_total lo (xs.getD k 0) with h | h
    · rw [Int.min_eq_left h]; exact h1
    · rw [Int.min_eq_right h]; exact getD_in hk
  · rcases Int.le_total hi (xs.getD k 0) with h | h
    · rw [Int.max_eq_right h]; exact getD_in hk
    · rw [Int.max_eq_left h]; exact h2
  · by_cases hjk : j = k
    · subst hjk; omega
    · have := h3 j (by omega); omega
theorem allAns_mem {xs : List Int} (h : allAns xs = true) {y : Int} (hy : y ∈ xs) : inB y 0 10000 = true := List.all_eq_true.1 h y hy
theorem Rng.bad {xs : List Int} {k : Nat} {lo hi : Int} (h : Rng xs k lo hi) (hb : lo < 0 ∨ 10000 < hi) : runT xs = (0, 0) := by
  have : allAns xs = false := by
    rw [← Bool.not_eq_true]; intro ha
    have h1 := inB_true.1 (allAns_mem ha h.1)
    have h2 := inB_true.1 (allAns_mem ha h.2.1)
    omega
  rw [runT, this]; simp
theorem Rng.good {xs : List Int} {lo hi : Int} (h : Rng xs xs.length lo hi) (h0 : 0 ≤ lo) (h1 : hi ≤ 10000) : allAns xs = true :=
  allAns_of fun j hj => inB_true.2 (by have := h.2.2 j hj; omega)
theorem Rng.between {xs : List Int} {lo hi : Int} (h : Rng xs xs.length lo hi) (h0 : 0 ≤ lo) (h1 : hi ≤ 10000) (hn : 0 < xs.length) (h50 : xs.length ≤ 50) : lo ≤ (runT xs).1 ∧ (runT xs).1 ≤ hi := by
  have ha := h.good h0 h1
  have hm : ∀ y ∈ xs, lo ≤ y ∧ y ≤ hi ∧ inB y 0 10000 = true := fun y hy => by
    obtain ⟨j, hj, rfl⟩ := List.mem_iff_getElem.1 hy
    have := h.2.2 j hj
    rw [List.getD_eq_getElem?_getD, List.getElem?_eq_getElem hj] at this
    exact ⟨this.1, this.2, allAns_mem ha hy⟩
  rw [runT, ha, decide_eq_true h50]
  cases xs with
  | nil => simp at hn
  | cons x r =>
    obtain ⟨x1, x2, x3⟩ := hm x List.mem_cons_self
    have hx := inB_true.1 x3
    exact fold_between lo hi r x (x / 2) (by simp only [tv, Bool.and_eq_true, inB_true]; omega) x1 x2 fun y hy => hm y (List.mem_cons_of_mem _ hy)
theorem runT_snoc {xs : List Int} {k : Int} (ha : allAns xs = true) (hk : inB k 0 10000 = true) (h0 : 0 < xs.length) (h49 : xs.length ≤ 49) : runT (xs ++ [k]) = stepP (runT xs) k := by
  have hb : allAns (xs ++ [k]) = true := List.all_eq_true.2 fun y hy => by
    rcases List.mem_append.1 hy with h | h
    · exact allAns_mem ha h
    · simp only [List.mem_cons, List.not_mem_nil, or_false] at h; subst h; exact hk
  rw [runT, runT, ha, hb, decide_eq_true (by simp; omega), decide_eq_true (by omega)]
  cases xs with
  | nil => simp at h0
  | cons x r => simp [foldT]
theorem own_cap {w : World} {base e n cap : Nat} {b : Nat} {cs : List Value} (h : w.ownsRow base e 1 (.slice (some ⟨b, 0, none⟩) n cap) n cs) : n ≤ cap ∧ cap ≤ maxLen := by
  rcases h.2 with ⟨h1, _⟩ | ⟨_, _, _, h1, _, _, h2, h3, _⟩
  · cases h1
  · injection h1 with _ _ h4; subst h4; exact ⟨h2, h3⟩
theorem c_run2 (a : Option Addr) (n cap : Nat) (xs : List Int) (M S : Int) (hr : runT xs = (M, S)) (w : World) (hxs : xs.length = n) (hn : n ≤ 1048576) (hcap : n ≤ cap) (hcm : cap ≤ maxLen) (h : Ints w a xs) :
    Calls Try.prog 13 #[.slice a n cap] w fun e w' => e = .returned (.agg #[.int .i64 M, .int .i64 S]) ∧ Below w.heap.size w w' := by
  have := c_TimingRun a n cap xs w hxs hn hcap hcm h
  rw [hr] at this
  exact this
theorem s_run2 (a : Option Addr) (n cap : Nat) (xs : List Int) (M S : Int) (hr : runT xs = (M, S)) (w : World) (hxs : xs.length = n) (hn : n ≤ 1048576) (h : Ints w a xs) :
    Calls Try.prog 14 #[.slice a n cap] w fun e w' => e = .returned (.agg #[.int .i64 M, .int .i64 S]) ∧ Below w.heap.size w w' := by
  have := s_TimingRun a n cap xs w hxs hn h
  rw [hr] at this
  exact this
end Go.Proofs.Ytdpmlkigmadajaa
