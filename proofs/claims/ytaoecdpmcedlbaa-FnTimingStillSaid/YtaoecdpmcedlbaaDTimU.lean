/- The walk of the law FnTimingStill: true for all bytes. No condition. -/
import Derived.Test.YtaoecdpmcedlbaaDTimT
namespace Go.Proofs.Ytaoecdpmcedlbaa
open Go.RowKit
theorem still_law {k : Int} (h : inB k 0 10000 = true) : (runT [k, k, k, k]).1 = k ∧ (runT [k, k, k, k]).2 ≤ k / 2 := by
  obtain ⟨h1, h2⟩ := inB_true.1 h
  have one : ∀ s, 0 ≤ s → s ≤ 10000 → stepP (k, s) k = (k, stepS k s k) ∧ 0 ≤ stepS k s k ∧ stepS k s k ≤ s := fun s a b => by
    have ht : tv k s = true := by simp only [tv, Bool.and_eq_true, inB_true]; omega
    obtain ⟨e1, e2, e3, e4⟩ := step_law ht h
    have e5 := tv_bd e1
    refine ⟨?_, e5.2.2.1, e4 rfl⟩
    simp only [stepP, Prod.mk.injEq, and_true]; omega
  obtain ⟨a1, a2, a3⟩ := one (k / 2) (by omega) (by omega)
  obtain ⟨b1, b2, b3⟩ := one _ a2 (by omega)
  obtain ⟨c1, c2, c3⟩ := one _ b2 (by omega)
  have e : runT [k, k, k, k] = foldT [k, k, k, k] := by simp [runT, allAns, h]
  rw [e]
  simp only [foldT, List.foldl_cons, List.foldl_nil]
  rw [a1, b1, c1]
  exact ⟨rfl, by simp only; omega⟩
set_option maxHeartbeats 1000000 in
theorem walkTimingStill (a : Option Addr) (n cap : Nat) (z : List Int) (w : World) (w0 : IsRow .u8 w a n cap z) :
    Calls Try.prog 9 #[.slice a n cap] w fun e w' => e = .returned (.bool true) ∧ Below w.heap.size w w' := by
  by_cases hbig : 1048576 < n
  · have hb' : (1048576 : Int) < (n : Int) := by omega
    go_enter Try.func9, Try.ntmps9
    go_wp2
    go_ret
    exact ⟨rfl, Below.refl _ _⟩
  have hn' : (n : Int) ≤ 1048576 := by omega
  obtain ⟨hcl, hcap⟩ := w0.caps
  have HC := Lib.hid w0.code
  clear w0 hbig
  go_enter Try.func9, Try.ntmps9
  go_wp2_with fail
  refine (s_DrawTimingStep a n cap _ hcl hcap HC.out).mono ?_
  rintro e w1 ⟨m, s, k, rfl, m1, m2, s1, s2, k1, k2, b1⟩
  have z1 := b1.size
  have Q1 := Lib.hid (b1.alloc z1 (.cells #[.int .i64 m, .int .i64 s] 25))
  have HB := Lib.hid (Box.new w1 25 [.int .i64 m, .int .i64 s])
  clear b1
  have HC1 := Lib.hid (fun W => c_TimingStep m s k W)
  have HC2 := Lib.hid (fun W => s_TimingStep m s k W)
  generalize hM : stepM m s k = M at *
  generalize hS : stepS m s k = S at *
  clear hM hS
  go_wp2_with fail
  have x0 := HB.out.cell 0
  have x1 := HB.out.cell 1
  simp only [List.getElem?_cons_zero, List.getElem?_cons_succ] at x0 x1
  have q2 : Below w.heap.size w (w1.alloc (.cells #[.int .i64 m, .int .i64 s] 25)).drew := ⟨Q1.out.os, Q1.out.tape, Q1.out.output, Q1.out.size, Q1.out.block⟩
  go_region_held3 (fun w' => w'.cell? ⟨w1.heap.size, 0, none⟩ = some (.int .i64 m) ∧ w'.cell? ⟨w1.heap.size, 1, none⟩ = some (.int .i64 s) ∧ Below w.heap.size w w') (first | assumption | go_keep | (refine ⟨?_, ?_, ?_⟩ <;> first | assumption | go_keep | go_grown))
    (first
      | (go_at_call 20; refine (HC1.out _).mono ?_; rintro e w' ⟨rfl, hb⟩
         have kk0 := hb.cell (p := ⟨w1.heap.size, 0, none⟩) (World.block_lt_of_cell? _ _ (by assumption))
         have kk1 := hb.cell (p := ⟨w1.heap.size, 1, none⟩) (World.block_lt_of_cell? _ _ (by assumption))
         have kk4 : Below w.heap.size w w' := Below.step (by assumption) hb (by have := Below.size (by assumption : Below w.heap.size w _); omega)
         clear hb)
      | (go_at_call 19; refine (HC2.out _).mono ?_; rintro e w' ⟨rfl, hb⟩
         obtain ⟨p0, p1, p2⟩ := ‹World.cell? _ _ = some _ ∧ World.cell? _ _ = some _ ∧ Below w.heap.size w _›
         have kk5 := (hb.cell (p := ⟨w1.heap.size, 0, none⟩) (World.block_lt_of_cell? _ _ p0)).trans p0
         have kk6 := (hb.cell (p := ⟨w1.heap.size, 1, none⟩) (World.block_lt_of_cell? _ _ p1)).trans p1
         have kk7 : Below w.heap.size w w' := Below.step p2 hb (by have := p2.size; omega)
         clear hb))
  rename_i held
  obtain ⟨_, _, q3⟩ := held
  have Q3 := Lib.hid q3
  have z3 := q3.size
  clear q2 q3 HC2 HC1 Q1 HB x0 x1
  cases h2 : inB k 0 10000
  · rcases inB_false.1 h2 with h2 | h2
    all_goals
      go_wp2_with fail
      refine (c_alive _).mono ?_; rintro e w5 ⟨rfl, b5⟩
      have Q5 := Below.step Q3.out b5 (by omega)
      go_wp2_with fail
      go_ret
      exact ⟨rfl, Q5⟩
  · obtain ⟨h3, h4⟩ := inB_true.1 h2
    obtain ⟨t1, t2⟩ := still_law h2
    have HT := Lib.hid (And.intro t1 t2)
    clear t1 t2 h2
    have z4 : w'.heap.size + 1 = (w'.alloc (.cells #[.int .i64 k, .int .i64 k, .int .i64 k, .int .i64 k] 3)).heap.size := by simp
    have HI : Ints (w'.alloc (.cells #[.int .i64 k, .int .i64 k, .int .i64 k, .int .i64 k] 3)) (some ⟨w'.heap.size, 0, none⟩) [k, k, k, k] := by
      refine .inr ⟨w'.heap.size, 0, rfl, by simp, fun i hi => ?_⟩
      have hb := Box.new w' 3 [.int .i64 k, .int .i64 k, .int .i64 k, .int .i64 k]
      rw [Nat.zero_add, hb.cell i]
      match i, hi with
      | 0, _ => rfl
      | 1, _ => rfl
      | 2, _ => rfl
      | 3, _ => rfl
    have HIh := Lib.hid HI
    have Q4 := Lib.hid (Q3.out.alloc z3 (.cells #[.int .i64 k, .int .i64 k, .int .i64 k, .int .i64 k] 3))
    clear HI
    go_wp2_with fail
    refine (c_TimingRun _ 4 4 [k, k, k, k] _ rfl (by omega) (by omega) (by simp [maxLen]) HIh.out).mono ?_
    rintro e w5 ⟨rfl, b5⟩
    have z5 := b5.size
    have ⟨t1, t2⟩ := HT.out
    rw [t1]
    generalize (runT [k, k, k, k]).2 = S2 at *
    have Q5 := Lib.hid (Below.step Q4.out b5 (by omega))
    clear b5 t1 HT HIh
    go_wp2_with fail
    have Q6 := (Q5.out.alloc (by omega) (.cells #[.int .i64 k, .int .i64 S2] 25))
    go_ret
    exact ⟨rfl, Q6⟩
end Go.Proofs.Ytaoecdpmcedlbaa
