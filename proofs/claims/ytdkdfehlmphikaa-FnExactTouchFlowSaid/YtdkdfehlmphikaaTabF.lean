/- The tests over entries that the program hands on (its closures), and find. No condition but lists of at most 2^20 entries. -/
import Derived.Test.YtdkdfehlmphikaaTabX
namespace Go.Proofs.Ytdkdfehlmphikaa
open Go.RowKit
theorem c_find1 (x0 x1 x2 x3 x4 x5 x6 y0 y1 y2 y3 y4 : Int) (B : Nat) (w : World) (hB : Box w B 37 [.int .i64 y0, .int .i64 y1, .int .i64 y2, .int .i64 y3, .int .i64 y4]) :
    Calls Try.prog 103 #[.agg #[.int .i64 x0, .int .i64 x1, .int .i64 x2, .int .i64 x3, .int .i64 x4, .int .i64 x5, .int .i64 x6], .pointer (some ⟨B, 0, none⟩)] w fun e w' =>
      e = .returned (.bool (decide (((x0, x1, x2, x3, x4) : F5) = (y0, y1, y2, y3, y4)))) ∧ Below w.heap.size w w' := by
  obtain ⟨t0, t1, t2, t3, t4, ft⟩ := (hB.alloc (.cells #[.int .i64 x0, .int .i64 x1, .int .i64 x2, .int .i64 x3, .int .i64 x4, .int .i64 x5, .int .i64 x6] 69)).five
  by_cases hq : ((x0, x1, x2, x3, x4) : F5) = (y0, y1, y2, y3, y4)
  · have hqe := eqlF_yes' hq
    rw [decide_eq_true hq]
    clear hq
    go_enter Try.func103, Try.ntmps103
    go_wp2
    go_ret
    exact ⟨rfl, (Below.refl _ _).alloc (Nat.le_refl _) _⟩
  · have hqe := eqlF_no' hq
    rw [decide_eq_false hq]
    clear hq
    go_enter Try.func103, Try.ntmps103
    go_wp2
    go_ret
    exact ⟨rfl, (Below.refl _ _).alloc (Nat.le_refl _) _⟩
theorem c_drop1 (x0 x1 x2 x3 x4 x5 x6 y0 y1 y2 y3 y4 : Int) (B : Nat) (w : World) (hB : Box w B 37 [.int .i64 y0, .int .i64 y1, .int .i64 y2, .int .i64 y3, .int .i64 y4]) :
    Calls Try.prog 85 #[.agg #[.int .i64 x0, .int .i64 x1, .int .i64 x2, .int .i64 x3, .int .i64 x4, .int .i64 x5, .int .i64 x6], .pointer (some ⟨B, 0, none⟩)] w fun e w' =>
      e = .returned (.bool (decide (((x0, x1, x2, x3, x4) : F5) = (y0, y1, y2, y3, y4)))) ∧ Below w.heap.size w w' := by
  obtain ⟨t0, t1, t2, t3, t4, ft⟩ := (hB.alloc (.cells #[.int .i64 x0, .int .i64 x1, .int .i64 x2, .int .i64 x3, .int .i64 x4, .int .i64 x5, .int .i64 x6] 69)).five
  by_cases hq : ((x0, x1, x2, x3, x4) : F5) = (y0, y1, y2, y3, y4)
  · have hqe := eqlF_yes' hq
    rw [decide_eq_true hq]
    clear hq
    go_enter Try.func85, Try.ntmps85
    go_wp2
    go_ret
    exact ⟨rfl, (Below.refl _ _).alloc (Nat.le_refl _) _⟩
  · have hqe := eqlF_no' hq
    rw [decide_eq_false hq]
    clear hq
    go_enter Try.func85, Try.ntmps85
    go_wp2
    go_ret
    exact ⟨rfl, (Below.refl _ _).alloc (Nat.le_refl _) _⟩
/-- An entry is too old. -/
def oldB (now st : Int) (e : E7) : Bool := decide (st ≤ now - e.2.2)
theorem c_expire1 (x0 x1 x2 x3 x4 x5 x6 now sz st : Int) (v : Value) (B C : Nat) (w : World) (h6 : inB x6 0 100000 = true) (hnow : inB now 0 100000 = true) (hB : w.cell? ⟨B, 0, none⟩ = some (.int .i64 now)) (hC : Box w C 30 [.int .i64 sz, .int .i64 st, v]) :
    Calls Try.prog 90 #[.agg #[.int .i64 x0, .int .i64 x1, .int .i64 x2, .int .i64 x3, .int .i64 x4, .int .i64 x5, .int .i64 x6], .pointer (some ⟨B, 0, none⟩), .pointer (some ⟨C, 0, none⟩)] w fun e w' =>
      e = .returned (.bool (oldB now st ((x0, x1, x2, x3, x4), x5, x6))) ∧ Below w.heap.size w w' := by
  obtain ⟨t0, t1, t2, ft⟩ := (hC.alloc (.cells #[.int .i64 x0, .int .i64 x1, .int .i64 x2, .int .i64 x3, .int .i64 x4, .int .i64 x5, .int .i64 x6] 69)).three
  have hB' := keep hB (.cells #[.int .i64 x0, .int .i64 x1, .int .i64 x2, .int .i64 x3, .int .i64 x4, .int .i64 x5, .int .i64 x6] 69)
  have a1 := inB_true.1 h6
  have a2 := inB_true.1 hnow
  have hw : IntKind.i64.wrap (now - x6) = now - x6 := IntWalk.i64_in _ (by omega)
  have HR : Hid (oldB now st ((x0, x1, x2, x3, x4), x5, x6) = decide (st ≤ now - x6)) := Lib.hid rfl
  clear a1 a2 h6 hnow
  go_enter Try.func90, Try.ntmps90
  go_wp2
  go_ret
  exact ⟨ret_bool (by rw [HR.out]), (Below.refl _ _).alloc (Nat.le_refl _) _⟩
set_option maxHeartbeats 1000000 in
theorem c_find (sz st : Int) (f : F5) (a : Option Addr) (n cap : Nat) (es : List E7) (w : World) (hxs : es.length = n) (hn : n ≤ 1048576) (h : Ents w a es) :
    Calls Try.prog 81 #[.agg #[.int .i64 sz, .int .i64 st, .slice a n cap], fvv f] w fun e w' => e = .returned (.int .i64 (pOf es f)) ∧ Below w.heap.size w w' := by
  obtain ⟨y0, y1, y2, y3, y4⟩ := f
  unfold fvv
  obtain ⟨W, hW, gW, sW, bx, by1⟩ := headB w 30 37 [.int .i64 sz, .int .i64 st, .slice a n cap] [.int .i64 y0, .int .i64 y1, .int .i64 y2, .int .i64 y3, .int .i64 y4]
  have HW := Lib.hid hW
  have HG := Lib.hid gW
  have HX := Lib.hid hxs
  have HE := Lib.hid (h.below gW)
  have ht : Tests 103 #[.pointer (some ⟨w.heap.size + 1, 0, none⟩)] (fun e => decide (e.1 = (y0, y1, y2, y3, y4))) es W none := fun e w' _ hg => by
    exact c_find1 _ _ _ _ _ _ _ _ _ _ _ _ _ _ (by1.kept hg (by simp))
  have HT := Lib.hid ht
  clear hW gW sW bx by1 ht h hxs
  go_enter Try.func81, Try.ntmps81
  go_wp2_with fail
  rw [← HW.out]
  refine (c_IndexE 103 _ _ none a n cap es W HX.out hn HE.out HT.out (enters_of Try.func103 (by kernel_rfl) rfl)).mono ?_
  rintro e w' ⟨rfl, hb⟩
  have HB := Lib.hid hb
  clear hb
  go_wp2
  go_ret
  exact ⟨rfl, Below.step HG.out HB.out HG.out.size⟩
end Go.Proofs.Ytdkdfehlmphikaa
