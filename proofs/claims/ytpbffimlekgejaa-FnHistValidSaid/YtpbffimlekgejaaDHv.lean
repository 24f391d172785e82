/- The walk of the law FnHistValid: true for all bytes. No condition. -/
import Derived.Test.YtpbffimlekgejaaHist
import Derived.Test.YtpbffimlekgejaaHistA
namespace Go.Proofs.Ytpbffimlekgejaa
open Go.RowKit
/-- A list of 12 or 13 numbers; nothing that was there has turned. -/
def RetHD (w : World) (e : Ending) (w' : World) : Prop :=
  ∃ (b off : Nat) (xs : List Int), e = .returned (.slice (some ⟨b, off, none⟩) xs.length xs.length) ∧ (xs.length = 12 ∨ xs.length = 13) ∧ (∀ x ∈ xs, -1 ≤ x ∧ x ≤ 1000001) ∧ Ints w' (some ⟨b, off, none⟩) xs ∧ Below w.heap.size w w'
set_option maxHeartbeats 1000000 in
theorem s_DrawHistValid (a : Option Addr) (len cap : Nat) (w : World) (hcl : len ≤ cap) (hcap : cap ≤ maxLen) (h : Code w.heap.size w a len) :
    Calls Try.prog 19 #[.slice a len cap] w (RetHD w) := by
  have HC := Lib.hid h
  clear h
  go_enter Try.func19, Try.ntmps19
  go_wp2_with fail
  refine (c_open (D := w.heap.size) a len cap _ hcl hcap (by simp) HC.out).mono ?_
  rintro e w1 ⟨g, rfl, hg, hr, hb⟩
  have HR := Lib.hid hr
  have HB := Lib.hid hb
  have hz := hb.size
  clear hr hb
  go_wp2_with fail
  refine (s_l20Hist g 0 2 _ HR.out (by omega) (by omega) (by omega)).mono ?_
  rintro e w2 ⟨b, off, xs, rfl, hl, hx, hI, _, _, hg2⟩
  have q := HB.out.trans (gb_below hg2 (by omega) (by omega))
  have HX := Lib.hid hx
  have HI := Lib.hid hI
  clear hg2 HB HR hx hI
  go_wp2_with fail
  go_ret
  exact ⟨b, off, xs, rfl, hl, HX.out, HI.out, q⟩
theorem hv_short {xs : List Int} (h : xs.length = 12) : hv xs = false := by simp [hv, h]
theorem zeros_ints (w : World) {g : Nat} (h : w.ownsRow g 3 1 (.slice (some ⟨g, 0, none⟩) 13 13) 13 (madeCells #[Value.int .i64 0] 13).toList) : Ints w (some ⟨g, 0, none⟩) (List.replicate 13 0) := by
  have e : (madeCells #[Value.int .i64 0] 13).toList = (List.replicate 13 (0 : Int)).map (Value.int .i64) := by
    first | rfl | kernel_rfl
  rw [e] at h
  exact ownsRow.ints h
theorem hv_zeros : hv (List.replicate 13 0) = true := by decide
set_option maxHeartbeats 1000000 in
theorem walkHistValid (a : Option Addr) (n cap : Nat) (z : List Int) (w : World) (w0 : IsRow .u8 w a n cap z) :
    Calls Try.prog 5 #[.slice a n cap] w fun e w' => e = .returned (.bool true) ∧ Below w.heap.size w w' := by
  by_cases hbig : 1048576 < n
  · have hb' : (1048576 : Int) < (n : Int) := by omega
    go_enter Try.func5, Try.ntmps5
    go_wp2
    go_ret
    exact ⟨rfl, Below.refl _ _⟩
  have hn' : (n : Int) ≤ 1048576 := by omega
  obtain ⟨hcl, hcap⟩ := w0.caps
  obtain ⟨i0, hi0, hz0, hz1, hz2⟩ := info_parts infoInt8
  have HC := Lib.hid w0.code
  clear w0 hbig
  go_enter Try.func5, Try.ntmps5
  go_wp2_with fail
  refine (s_DrawHistValid a n cap _ hcl hcap HC.out).mono ?_
  rintro e w1 ⟨b, off, xs, rfl, hl, _, hi, b1⟩
  have z1 := b1.size
  have Q1 := Lib.hid b1
  have I1 := Lib.hid hi
  clear b1 hi
  go_wp2_with fail
  refine (c_HistValid _ xs.length xs.length xs _ rfl (by omega) I1.out).mono ?_; rintro e w2 ⟨rfl, rfl⟩
  go_wp2_with fail
  refine (s_HistValid _ xs.length xs.length xs _ rfl (by omega) I1.out).mono ?_; rintro e w2 ⟨rfl, rfl⟩
  obtain ⟨w3, hrun, r1, r2⟩ := run_make_full (P := Try.prog) w1 w1.heap.size 22 3 i0 (.int .i64 0) 1 Try.underlying22 hi0 hz0 hz1 .i64 .i64 13 (by rw [hz2]; omega) (by unfold maxLen; omega) (Nat.le_refl _)
  have hrun' : Sem.run Try.prog (Instr.makeSlice 22 (.int .i64 13) (.int .i64 13)) w1 = .ok (.slice (some ⟨w1.heap.size, 0, none⟩) 13 13) w3 := hrun
  have Z3 := Lib.hid (zeros_ints w3 r1)
  have Q3 := Lib.hid (Below.step Q1.out (grown_below r2) (by omega))
  have z3 := r2.size
  clear hrun r1 r2
  cases hv1 : hv xs
  · go_wp2_with fail
    refine (c_HistValid _ 13 13 (List.replicate 13 0) _ rfl (by omega) Z3.out).mono ?_; rintro e w2 ⟨rfl, rfl⟩
    rw [hv_zeros]
    go_wp2_with fail
    refine (c_alive _).mono ?_; rintro e w6 ⟨rfl, b6⟩
    have Q6 := Below.step Q3.out b6 (by omega)
    go_wp2_with fail
    go_ret
    exact ⟨rfl, Q6⟩
  · have hL : xs.length = 13 := by simp only [hv, Bool.and_eq_true, decide_eq_true_eq] at hv1; exact hv1.2
    have hD : (xs.drop 1).length = 12 := by simp [hL]
    have ID : Ints w1 (some ⟨b, off + 1, none⟩) (xs.drop 1) := by
      rcases I1.out with h0 | ⟨b', off', he, hb, hc⟩
      · rw [h0] at hL; simp at hL
      · injection he with he
        injection he with h1 h2
        subst h1 h2
        refine .inr ⟨b, off + 1, rfl, hb, fun i hi => ?_⟩
        have := hc (1 + i) (by rw [hD] at hi; omega)
        rw [Nat.add_assoc, this]
        simp [List.getD_eq_getElem?_getD, Nat.add_comm]
    have IDh := Lib.hid ID
    clear ID
    rw [hL]
    go_wp2_with fail
    refine (c_HistValid _ 12 12 (xs.drop 1) _ hD (by omega) IDh.out).mono ?_; rintro e w2 ⟨rfl, rfl⟩
    rw [hv_short hD]
    go_wp2_with fail
    refine (c_HistValid _ 13 13 (List.replicate 13 0) _ rfl (by omega) Z3.out).mono ?_; rintro e w2 ⟨rfl, rfl⟩
    rw [hv_zeros]
    go_wp2_with fail
    refine (c_alive _).mono ?_; rintro e w6 ⟨rfl, b6⟩
    have Q6 := Below.step Q3.out b6 (by omega)
    go_wp2_with fail
    go_ret
    exact ⟨rfl, Q6⟩
end Go.Proofs.Ytpbffimlekgejaa
