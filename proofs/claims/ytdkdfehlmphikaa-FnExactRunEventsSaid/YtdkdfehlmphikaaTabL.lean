/- The verifier's small functions over Tables: szTable, toTable, eqTable, markTable, heldTable. No condition but the bounds that each states. The text is written by a program (wip/mks3l.py). -/
import Derived.Test.YtdkdfehlmphikaaMB
import Derived.Test.YtdkdfehlmphikaaEntM
namespace Go.Proofs.Ytdkdfehlmphikaa
open Go.RowKit
theorem c_szTable_no (N R : Int) (a : Option Addr) (n cap : Nat) (left : Int) (w : World) (hn : n ≤ maxLen) (h0 : 0 ≤ left) (h1 : left ≤ 2000000) (hc : left < n) :
    Calls Try.prog 22 #[.agg #[.int .i64 N, .int .i64 R, .slice a n cap], .int .i64 left] w fun e w' => e = .returned (.int .i64 (-1)) ∧ Below w.heap.size w w' := by
  go_enter Try.func22, Try.ntmps22
  go_wp2_with fail
  refine (c_szEntryS_no _ _ _ _ _ hn h0 h1 hc).mono ?_; rintro e w' ⟨rfl, rfl⟩
  go_wp2
  go_ret
  exact ⟨rfl, by go_grown⟩
theorem c_szTable (N R : Int) (a : Option Addr) (n cap : Nat) (left : Int) (w : World) (h1 : left ≤ 2000000) (hc : (n : Int) ≤ left) :
    Calls Try.prog 22 #[.agg #[.int .i64 N, .int .i64 R, .slice a n cap], .int .i64 left] w fun e w' => e = .returned (.int .i64 (left - n)) ∧ Below w.heap.size w w' := by
  have hc' : ¬ (left - (n : Int) < 0) := by omega
  go_enter Try.func22, Try.ntmps22
  go_wp2_with fail
  refine (c_szEntryS _ _ _ _ _ h1 hc).mono ?_; rintro e w' ⟨rfl, rfl⟩
  go_wp2
  go_ret
  exact ⟨rfl, by go_grown⟩
/-- A struct of two numbers and a new row is the answer. -/
def RetS3 (w : World) (N R : Int) (n : Nat) (vs : List Value) (e : Ending) (w' : World) : Prop :=
  ∃ (a' : Option Addr) (cap' : Nat), e = .returned (.agg #[.int .i64 N, .int .i64 R, .slice a' n cap']) ∧ w'.ownsRow w.heap.size 69 7 (.slice a' n cap') n vs ∧ w.grownBy w' none
set_option maxHeartbeats 800000 in
theorem c_toTable (N R : Int) (a : Option Addr) (n cap : Nat) (xs : List E7) (w : World) (hxs : xs.length = n) (hn : n ≤ 1048576) (h : Ents w a xs) :
    Calls Try.prog 25 #[.agg #[.int .i64 N, .int .i64 R, .slice a n cap]] w (RetS3 w N R n (eCells xs)) := by
  obtain ⟨W, hW, hB, hz, h0, h1, h2⟩ : ∃ W, W = (((w.alloc (.cells #[.int .i64 N, .int .i64 R, .slice a n cap] 45)).alloc (.cells #[.int .i64 0, .int .i64 0, .slice none 0 0] 30)).alloc (.cells #[.int .i64 N, .int .i64 R, .slice none 0 0] 30)) ∧
    Below w.heap.size w W ∧ W.heap.size = w.heap.size + 3 ∧ Box W w.heap.size 45 [.int .i64 N, .int .i64 R, .slice a n cap] ∧ Box W (w.heap.size + 1) 30 [.int .i64 0, .int .i64 0, .slice none 0 0] ∧ Box W (w.heap.size + 2) 30 [.int .i64 N, .int .i64 R, .slice none 0 0] := head3 w 45 30 30 _ _ _
  have HX := Lib.hid hxs
  have HW := Lib.hid hW
  have HB := Lib.hid hB
  have HZ := Lib.hid hz
  have H1 := Lib.hid h1
  have H2 := Lib.hid h2
  have HI := Lib.hid (h.below hB)
  clear hxs hW hB hz h0 h1 h2 h
  go_enter Try.func25, Try.ntmps25
  go_wp2_with fail
  rw [← HW.out]
  refine (c_toEntryS a n cap (eInts xs) W (by rw [eInts_len, HX.out]) hn HI.out).mono ?_; rintro e w1 ⟨a1, c1, rfl, o1, g1⟩
  have O1 := Lib.hid o1
  have G1 := Lib.hid (grown_below g1)
  have z1 := g1.size
  rw [HZ.out] at z1
  obtain ⟨y0, y1, y2, fy⟩ := (H1.out.keep G1.out).three
  obtain ⟨u0, u1, u2, fu⟩ := (H2.out.keep G1.out).three
  clear o1 g1
  go_wp2
  have hl := O1.out.lt
  rw [HZ.out] at hl
  refine bodyPost_ret (v := .agg #[.int .i64 N, .int .i64 R, .slice a1 n c1]) (by simp [results, Try.results25, go_sem, y0, y1, y2]) rfl ?_
  have hb := HB.out.trans (G1.out.mono (by rw [HZ.out]; omega))
  have hne1 : (Value.slice a1 n c1).ownBlock ≠ some (w.heap.size + 1) := fun e => by have := (hl _ e).1; omega
  have hne2 : (Value.slice a1 n c1).ownBlock ≠ some (w.heap.size + 2) := fun e => by have := (hl _ e).1; omega
  refine ⟨a1, c1, rfl, ?_, below_grown ?_⟩
  · exact row_set (row_set (row_set (row_set (row_wider O1.out (by rw [HZ.out]; omega)) _ _ hne2) _ _ hne1) _ _ hne1) _ _ hne1
  · go_grown
set_option maxHeartbeats 800000 in
theorem c_eqTable (N R : Int) (a a' : Option Addr) (n ca ca' : Nat) (xs : List E7) (w : World) (hxs : xs.length = n) (hn : n ≤ 1048576) (h : Ents w a xs) (h' : Ents w a' xs) :
    Calls Try.prog 28 #[.agg #[.int .i64 N, .int .i64 R, .slice a n ca], .agg #[.int .i64 N, .int .i64 R, .slice a' n ca']] w fun e w' => e = .returned (.bool true) ∧ Below w.heap.size w w' := by
  obtain ⟨W, hW, hB, hz, h0, h1⟩ : ∃ W, W = ((w.alloc (.cells #[.int .i64 N, .int .i64 R, .slice a n ca] 30)).alloc (.cells #[.int .i64 N, .int .i64 R, .slice a' n ca'] 30)) ∧
    Below w.heap.size w W ∧ W.heap.size = w.heap.size + 2 ∧ Box W w.heap.size 30 [.int .i64 N, .int .i64 R, .slice a n ca] ∧ Box W (w.heap.size + 1) 30 [.int .i64 N, .int .i64 R, .slice a' n ca'] := headB w 30 30 _ _
  have HX := Lib.hid hxs
  have HW := Lib.hid hW
  have HB := Lib.hid hB
  have HZ := Lib.hid hz
  have HI := Lib.hid (h.below hB)
  have HJ := Lib.hid (h'.below hB)
  clear hxs hW hB hz h0 h1 h h'
  go_enter Try.func28, Try.ntmps28
  go_wp2_with fail
  rw [← HW.out]
  refine (c_eqEntryS a a' n ca ca' (eInts xs) W (by rw [eInts_len, HX.out]) hn HI.out HJ.out).mono ?_; rintro e w1 ⟨rfl, b1⟩
  have B1 := Lib.hid b1
  clear b1
  go_wp2
  go_ret
  exact ⟨rfl, HB.out.trans (B1.out.mono (by rw [HZ.out]; omega))⟩
set_option maxHeartbeats 800000 in
theorem c_markTable (base : Nat) (N R : Int) (a : Option Addr) (n cap : Nat) (k : Int) (xs : List Value) (w : World) (hn : n ≤ 1048576) (hk0 : 0 ≤ k) (hk : k ≤ 1000000000) (h : w.ownsRow base 69 7 (.slice a n cap) n xs) :
    Calls Try.prog 31 #[.agg #[.int .i64 N, .int .i64 R, .slice a n cap], .int .i64 k] w fun e w' => e = .returned (.int .i64 (k + 7 * (n : Int))) ∧
      w'.ownsRow base 69 7 (.slice a n cap) n ((upFrom k (n * 7)).map (Value.int .i64)) ∧ w.grownBy w' (Value.slice a n cap).ownBlock := by
  obtain ⟨W, hW, hB, hz, h0⟩ : ∃ W, W = (w.alloc (.cells #[.int .i64 N, .int .i64 R, .slice a n cap] 30)) ∧ Below w.heap.size w W ∧ W.heap.size = w.heap.size + 1 ∧ Box W w.heap.size 30 [.int .i64 N, .int .i64 R, .slice a n cap] := head1 w 30 _
  have HW := Lib.hid hW
  have HB := Lib.hid hB
  have HO := Lib.hid (row_below h hB)
  clear hW hB hz h0 h
  go_enter Try.func31, Try.ntmps31
  go_wp2_with fail
  rw [← HW.out]
  refine (c_markEntryS base n a cap k _ W hn hk0 hk HO.out).mono ?_; rintro e w1 ⟨rfl, o1, g1⟩
  have O1 := Lib.hid o1
  have G1 := Lib.hid g1
  clear o1 g1
  go_wp2
  go_ret
  have hgb : w.grownBy W (Value.slice a n cap).ownBlock := ⟨HB.out.os, HB.out.tape, HB.out.output, HB.out.size, fun i hi _ => HB.out.block i hi⟩
  exact ⟨rfl, O1.out, grownBy.trans' hgb G1.out⟩
set_option maxHeartbeats 800000 in
theorem c_heldTable (N R : Int) (a : Option Addr) (n cap : Nat) (k : Int) (w : World) (hn : n ≤ 1048576) (hk0 : 0 ≤ k) (hk : k ≤ 1000000000) (h : Vals w a ((upFrom k (n * 7)).map (Value.int .i64))) :
    Calls Try.prog 32 #[.agg #[.int .i64 N, .int .i64 R, .slice a n cap], .int .i64 k] w fun e w' => e = .returned (.int .i64 (k + 7 * (n : Int))) ∧ Below w.heap.size w w' := by
  obtain ⟨W, hW, hB, hz, h0⟩ : ∃ W, W = (w.alloc (.cells #[.int .i64 N, .int .i64 R, .slice a n cap] 30)) ∧ Below w.heap.size w W ∧ W.heap.size = w.heap.size + 1 ∧ Box W w.heap.size 30 [.int .i64 N, .int .i64 R, .slice a n cap] := head1 w 30 _
  have hk2 : ¬ ((k + 7 * (n : Int)) < 0) := by omega
  have HW := Lib.hid hW
  have HB := Lib.hid hB
  have HI := Lib.hid (h.below hB)
  clear hW hB hz h0 h
  go_enter Try.func32, Try.ntmps32
  go_wp2_with fail
  rw [← HW.out]
  refine (c_heldEntryS a n cap k W hn hk0 hk HI.out).mono ?_; rintro e w' ⟨rfl, rfl⟩
  go_wp2
  go_ret
  exact ⟨rfl, HB.out⟩
end Go.Proofs.Ytdkdfehlmphikaa
