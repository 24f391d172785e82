/- The walk of the law FnSplitKey: true for all bytes. No condition. -/
import Derived.Test.YtdgfngcfodccmaaKey
import Derived.Test.YtdgfngcfodccmaaSplit
namespace Go.Proofs.Ytdgfngcfodccmaa
open Go.RowKit
/-- A key and a share; nothing that was there has turned. -/
def RetK (w : World) (e : Ending) (w' : World) : Prop := ∃ k s : Int, e = .returned (.tuple #[.int .i64 k, .int .i64 s]) ∧ -1 ≤ k ∧ k ≤ 1000003 ∧ -1 ≤ s ∧ s ≤ 101 ∧ Below w.heap.size w w'
set_option maxHeartbeats 1000000 in
theorem s_DrawSplitKey (a : Option Addr) (len cap : Nat) (w : World) (hcl : len ≤ cap) (hcap : cap ≤ maxLen) (h : Code w.heap.size w a len) :
    Calls Try.prog 30 #[.slice a len cap] w (RetK w) := by
  have HC := Lib.hid h
  clear h
  go_enter Try.func30, Try.ntmps30
  go_wp2_with fail
  refine (c_open (D := w.heap.size) a len cap _ hcl hcap (by simp) HC.out).mono ?_
  rintro e w1 ⟨g, rfl, hg, hr, hb⟩
  have HR := Lib.hid hr
  have HB := Lib.hid hb
  have hz := hb.size
  clear hr hb
  go_wp2_with fail
  refine (s_l20Key g 0 9 _ HR.out (by omega) (by omega) (by omega)).mono ?_
  rintro e w2 ⟨k, rfl, k1, k2, ⟨p2, hp2, hr2⟩, hg2⟩
  have HR2 := Lib.hid hr2
  have HG2 := Lib.hid hg2
  clear hr2 hg2
  go_wp2_with fail
  refine (s_l20Share g p2 _ HR2.out (by omega)).mono ?_
  rintro e w3 ⟨s, rfl, s1, s2, _, hg3⟩
  have q := HB.out.trans (gb_below (grownBy_tr HG2.out hg3) (by omega) (by omega))
  clear hg3 HR HR2 HB HG2
  go_wp2_with fail
  refine bodyPost_ret (v := .tuple #[.int .i64 k, .int .i64 s]) (by simp [results, Try.results30, go_sem]) rfl ?_
  exact ⟨k, s, rfl, k1, k2, s1, s2, q⟩
theorem split_zero (k : Int) : splitB k 0 = false := by
  cases h : inB k 0 1000002
  · simp [splitB, h]
  · have := (ph_bd h).1
    simp only [splitB, show decide (ph k < 0) = false from decide_eq_false (by omega), Bool.and_false]
theorem split_all (k : Int) : splitB k 100 = inB k 0 1000002 := by
  cases h : inB k 0 1000002
  · simp [splitB, h]
  · have := (ph_bd h).2
    have h2 : inB 100 0 100 = true := by decide
    simp only [splitB, h, h2, show decide (ph k < 100) = true from decide_eq_true (by omega), Bool.and_self]
theorem split_next {k s : Int} (h : splitB k s = true) : s = 100 ∨ splitB k (s + 1) = true := by
  simp only [splitB, Bool.and_eq_true, inB_true, decide_eq_true_eq] at h ⊢
  obtain ⟨⟨h1, h2, h3⟩, h4⟩ := h
  by_cases hn : s = 100
  · exact .inl hn
  · exact .inr ⟨⟨h1, by omega, by omega⟩, by omega⟩
set_option maxHeartbeats 1000000 in
theorem walkSplitKey (a : Option Addr) (n cap : Nat) (z : List Int) (w : World) (w0 : IsRow .u8 w a n cap z) :
    Calls Try.prog 8 #[.slice a n cap] w fun e w' => e = .returned (.bool true) ∧ Below w.heap.size w w' := by
  by_cases hbig : 1048576 < n
  · have hb' : (1048576 : Int) < (n : Int) := by omega
    go_enter Try.func8, Try.ntmps8
    go_wp2
    go_ret
    exact ⟨rfl, Below.refl _ _⟩
  have hn' : (n : Int) ≤ 1048576 := by omega
  obtain ⟨hcl, hcap⟩ := w0.caps
  have HC := Lib.hid w0.code
  clear w0 hbig
  go_enter Try.func8, Try.ntmps8
  go_wp2_with fail
  refine (s_DrawSplitKey a n cap _ hcl hcap HC.out).mono ?_
  rintro e w1 ⟨k, s, rfl, k1, k2, s1, s2, b1⟩
  have z1 := b1.size
  have Q1 := Lib.hid b1
  clear b1
  go_wp2_with fail
  refine (c_SplitKey _ _ _).mono ?_; rintro e w2 ⟨rfl, b2⟩
  have Q2 := Lib.hid (Below.step Q1.out b2 (by omega))
  have z2 := b2.size
  clear b2
  cases hok : splitB k s
  · have hk : k < 0 ∨ (0 ≤ k ∧ k ≤ 1000002) ∨ (0 ≤ k ∧ 1000002 < k) := by omega
    rcases hk with hk | ⟨hk, hk2⟩ | ⟨hk, hk2⟩
    all_goals
      go_wp2_with fail
      refine (s_SplitKey _ _ _).mono ?_; rintro e w3 ⟨rfl, b3⟩
      have Q3 := Lib.hid (Below.step Q2.out b3 (by omega))
      have z3 := b3.size
      rw [hok]
      clear b3
      go_wp2_with fail
      refine (c_SplitKey _ _ _).mono ?_; rintro e w4 ⟨rfl, b4⟩
      have Q4 := Lib.hid (Below.step Q3.out b4 (by omega))
      have z4 := b4.size
      rw [split_zero]
      clear b4
      go_wp2_with fail
      refine (c_SplitKey _ _ _).mono ?_; rintro e w5 ⟨rfl, b5⟩
      have Q5 := Lib.hid (Below.step Q4.out b5 (by omega))
      have z5 := b5.size
      first
        | rw [split_all, show inB k 0 1000002 = true from inB_true.2 (by omega)]
        | rw [split_all, show inB k 0 1000002 = false from inB_false.2 (by omega)]
      clear b5
      go_wp2_with fail
      refine (c_alive _).mono ?_; rintro e w6 ⟨rfl, b6⟩
      have Q6 := Below.step Q5.out b6 (by omega)
      go_wp2_with fail
      go_ret
      first
        | exact ⟨rfl, Q6⟩
        | exact ⟨ret_bool (a := !decide (k ≤ 1000002)) (b := true) (by simp; omega), Q6⟩
  · have hn : inB k 0 1000002 = true := by simp only [splitB, Bool.and_eq_true] at hok; exact hok.1.1
    obtain ⟨hk, hk2⟩ := inB_true.1 hn
    have hnx := split_next hok
    by_cases hmax : s = 100
    · subst hmax
      go_wp2_with fail
      refine (s_SplitKey _ _ _).mono ?_; rintro e w3 ⟨rfl, b3⟩
      have Q3 := Lib.hid (Below.step Q2.out b3 (by omega))
      have z3 := b3.size
      rw [hok]
      clear b3 hnx
      go_wp2_with fail
      refine (c_SplitKey _ _ _).mono ?_; rintro e w4 ⟨rfl, b4⟩
      have Q4 := Lib.hid (Below.step Q3.out b4 (by omega))
      have z4 := b4.size
      rw [split_zero]
      clear b4
      go_wp2_with fail
      refine (c_SplitKey _ _ _).mono ?_; rintro e w5 ⟨rfl, b5⟩
      have Q5 := Lib.hid (Below.step Q4.out b5 (by omega))
      have z5 := b5.size
      first
        | rw [split_all, show inB k 0 1000002 = true from inB_true.2 (by omega)]
        | rw [split_all, show inB k 0 1000002 = false from inB_false.2 (by omega)]
      clear b5
      go_wp2_with fail
      refine (c_alive _).mono ?_; rintro e w6 ⟨rfl, b6⟩
      have Q6 := Below.step Q5.out b6 (by omega)
      go_wp2_with fail
      go_ret
      first
        | exact ⟨rfl, Q6⟩
        | exact ⟨ret_bool (a := !decide (k ≤ 1000002)) (b := true) (by simp; omega), Q6⟩
    · have hnx : splitB k (s + 1) = true := hnx.resolve_left hmax
      go_wp2_with fail
      refine (s_SplitKey _ _ _).mono ?_; rintro e w7 ⟨rfl, b7⟩
      have Q7 := Lib.hid (Below.step Q2.out b7 (by omega))
      have z7 := b7.size
      rw [hok]
      clear b7
      go_wp2_with fail
      refine (c_SplitKey _ _ _).mono ?_; rintro e w3 ⟨rfl, b3⟩
      have Q3 := Lib.hid (Below.step Q7.out b3 (by omega))
      have z3 := b3.size
      rw [hnx]
      clear b3
      go_wp2_with fail
      refine (c_SplitKey _ _ _).mono ?_; rintro e w4 ⟨rfl, b4⟩
      have Q4 := Lib.hid (Below.step Q3.out b4 (by omega))
      have z4 := b4.size
      rw [split_zero]
      clear b4
      go_wp2_with fail
      refine (c_SplitKey _ _ _).mono ?_; rintro e w5 ⟨rfl, b5⟩
      have Q5 := Lib.hid (Below.step Q4.out b5 (by omega))
      have z5 := b5.size
      first
        | rw [split_all, show inB k 0 1000002 = true from inB_true.2 (by omega)]
        | rw [split_all, show inB k 0 1000002 = false from inB_false.2 (by omega)]
      clear b5
      go_wp2_with fail
      refine (c_alive _).mono ?_; rintro e w6 ⟨rfl, b6⟩
      have Q6 := Below.step Q5.out b6 (by omega)
      go_wp2_with fail
      go_ret
      first
        | exact ⟨rfl, Q6⟩
        | exact ⟨ret_bool (a := !decide (k ≤ 1000002)) (b := true) (by simp; omega), Q6⟩
end Go.Proofs.Ytdgfngcfodccmaa
