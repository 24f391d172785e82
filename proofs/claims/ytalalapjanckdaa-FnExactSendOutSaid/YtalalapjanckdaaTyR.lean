/- The checker is right: an operation of a kind that it knows leaves a value of the type that it gives. -/
import Derived.Test.YtalalapjanckdaaTy
namespace Go.Proofs.Ytalalapjanckdaa
open Go.RowKit
theorem run_bs1 (o : Oper) (ρ : Operand → Value) (w : World) (x0 : Operand) (m0 : Int) (ho : o.op = .buildSlice 50 1 #[(0, x0)]) (h0 : ρ x0 = .int .i64 m0) :
    (execOp ρ o).run Try.prog w = .ok (.value (.slice (some ⟨w.heap.size, 0, none⟩) 1 1)) (w.alloc (.cells (ints [m0]) 3)) := by
  simp [execOp, ho, h0, ints, go_sem]
theorem run_bs2 (o : Oper) (ρ : Operand → Value) (w : World) (x0 x1 : Operand) (m0 m1 : Int) (ho : o.op = .buildSlice 50 2 #[(0, x0), (1, x1)]) (h0 : ρ x0 = .int .i64 m0) (h1 : ρ x1 = .int .i64 m1) :
    (execOp ρ o).run Try.prog w = .ok (.value (.slice (some ⟨w.heap.size, 0, none⟩) 2 2)) (w.alloc (.cells (ints [m0, m1]) 3)) := by
  simp [execOp, ho, h0, h1, ints, go_sem]
theorem run_bs3 (o : Oper) (ρ : Operand → Value) (w : World) (x0 x1 x2 : Operand) (m0 m1 m2 : Int) (ho : o.op = .buildSlice 50 3 #[(0, x0), (1, x1), (2, x2)]) (h0 : ρ x0 = .int .i64 m0) (h1 : ρ x1 = .int .i64 m1) (h2 : ρ x2 = .int .i64 m2) :
    (execOp ρ o).run Try.prog w = .ok (.value (.slice (some ⟨w.heap.size, 0, none⟩) 3 3)) (w.alloc (.cells (ints [m0, m1, m2]) 3)) := by
  simp [execOp, ho, h0, h1, h2, ints, go_sem]
theorem run_bs4 (o : Oper) (ρ : Operand → Value) (w : World) (x0 x1 x2 x3 : Operand) (m0 m1 m2 m3 : Int) (ho : o.op = .buildSlice 50 4 #[(0, x0), (1, x1), (2, x2), (3, x3)]) (h0 : ρ x0 = .int .i64 m0) (h1 : ρ x1 = .int .i64 m1) (h2 : ρ x2 = .int .i64 m2) (h3 : ρ x3 = .int .i64 m3) :
    (execOp ρ o).run Try.prog w = .ok (.value (.slice (some ⟨w.heap.size, 0, none⟩) 4 4)) (w.alloc (.cells (ints [m0, m1, m2, m3]) 3)) := by
  simp [execOp, ho, h0, h1, h2, h3, ints, go_sem]
theorem run_bs5 (o : Oper) (ρ : Operand → Value) (w : World) (x0 x1 x2 x3 x4 : Operand) (m0 m1 m2 m3 m4 : Int) (ho : o.op = .buildSlice 50 5 #[(0, x0), (1, x1), (2, x2), (3, x3), (4, x4)]) (h0 : ρ x0 = .int .i64 m0) (h1 : ρ x1 = .int .i64 m1) (h2 : ρ x2 = .int .i64 m2) (h3 : ρ x3 = .int .i64 m3) (h4 : ρ x4 = .int .i64 m4) :
    (execOp ρ o).run Try.prog w = .ok (.value (.slice (some ⟨w.heap.size, 0, none⟩) 5 5)) (w.alloc (.cells (ints [m0, m1, m2, m3, m4]) 3)) := by
  simp [execOp, ho, h0, h1, h2, h3, h4, ints, go_sem]
theorem run_bs6 (o : Oper) (ρ : Operand → Value) (w : World) (x0 x1 x2 x3 x4 x5 : Operand) (m0 m1 m2 m3 m4 m5 : Int) (ho : o.op = .buildSlice 50 6 #[(0, x0), (1, x1), (2, x2), (3, x3), (4, x4), (5, x5)]) (h0 : ρ x0 = .int .i64 m0) (h1 : ρ x1 = .int .i64 m1) (h2 : ρ x2 = .int .i64 m2) (h3 : ρ x3 = .int .i64 m3) (h4 : ρ x4 = .int .i64 m4) (h5 : ρ x5 = .int .i64 m5) :
    (execOp ρ o).run Try.prog w = .ok (.value (.slice (some ⟨w.heap.size, 0, none⟩) 6 6)) (w.alloc (.cells (ints [m0, m1, m2, m3, m4, m5]) 3)) := by
  simp [execOp, ho, h0, h1, h2, h3, h4, h5, ints, go_sem]
theorem run_bs7 (o : Oper) (ρ : Operand → Value) (w : World) (x0 x1 x2 x3 x4 x5 x6 : Operand) (m0 m1 m2 m3 m4 m5 m6 : Int) (ho : o.op = .buildSlice 50 7 #[(0, x0), (1, x1), (2, x2), (3, x3), (4, x4), (5, x5), (6, x6)]) (h0 : ρ x0 = .int .i64 m0) (h1 : ρ x1 = .int .i64 m1) (h2 : ρ x2 = .int .i64 m2) (h3 : ρ x3 = .int .i64 m3) (h4 : ρ x4 = .int .i64 m4) (h5 : ρ x5 = .int .i64 m5) (h6 : ρ x6 = .int .i64 m6) :
    (execOp ρ o).run Try.prog w = .ok (.value (.slice (some ⟨w.heap.size, 0, none⟩) 7 7)) (w.alloc (.cells (ints [m0, m1, m2, m3, m4, m5, m6]) 3)) := by
  simp [execOp, ho, h0, h1, h2, h3, h4, h5, h6, ints, go_sem]
theorem run_bs8 (o : Oper) (ρ : Operand → Value) (w : World) (x0 x1 x2 x3 x4 x5 x6 x7 : Operand) (m0 m1 m2 m3 m4 m5 m6 m7 : Int) (ho : o.op = .buildSlice 50 8 #[(0, x0), (1, x1), (2, x2), (3, x3), (4, x4), (5, x5), (6, x6), (7, x7)]) (h0 : ρ x0 = .int .i64 m0) (h1 : ρ x1 = .int .i64 m1) (h2 : ρ x2 = .int .i64 m2) (h3 : ρ x3 = .int .i64 m3) (h4 : ρ x4 = .int .i64 m4) (h5 : ρ x5 = .int .i64 m5) (h6 : ρ x6 = .int .i64 m6) (h7 : ρ x7 = .int .i64 m7) :
    (execOp ρ o).run Try.prog w = .ok (.value (.slice (some ⟨w.heap.size, 0, none⟩) 8 8)) (w.alloc (.cells (ints [m0, m1, m2, m3, m4, m5, m6, m7]) 3)) := by
  simp [execOp, ho, h0, h1, h2, h3, h4, h5, h6, h7, ints, go_sem]
theorem run_bin (o : Oper) (ρ : Operand → Value) (w : World) (x y : Operand) (m n : Int) (u : TypeId) (hx : ρ x = .int .i64 m) (hy : ρ y = .int .i64 n) :
    (o.op = .binOp .mul 3 x y u → (execOp ρ o).run Try.prog w = .ok (.value (.int .i64 (IntKind.i64.wrap (m * n)))) w) ∧
    (o.op = .binOp .add 3 x y u → (execOp ρ o).run Try.prog w = .ok (.value (.int .i64 (IntKind.i64.wrap (m + n)))) w) ∧
    (o.op = .binOp .sub 3 x y u → (execOp ρ o).run Try.prog w = .ok (.value (.int .i64 (IntKind.i64.wrap (m - n)))) w) ∧
    (o.op = .binOp .eql 3 x y u → (execOp ρ o).run Try.prog w = .ok (.value (.bool (m == n))) w) ∧
    (o.op = .binOp .quo 3 x y u → n ≠ 0 → (execOp ρ o).run Try.prog w = .ok (.value (.int .i64 (IntKind.i64.wrap (m.tdiv n)))) w) := by
  refine ⟨fun ho => ?_, fun ho => ?_, fun ho => ?_, fun ho => ?_, fun ho hn => ?_⟩
  · simp [execOp, ho, hx, hy, go_sem]
  · simp [execOp, ho, hx, hy, go_sem]
  · simp [execOp, ho, hx, hy, go_sem]
  · simp [execOp, ho, hx, hy, go_sem]
  · simp [execOp, ho, hx, hy, hn, go_sem]
theorem run_pk (o : Oper) (ρ : Operand → Value) (w : World) (c : Call) (x y : Operand) (v u : Value) (ho : o.op = .call c) (hc : c.callee = .value (.func 48)) (ha : c.args.toList = [x, y])
    (hf : ρ (.func 48) = .func (.func 48) #[] #[]) (hx : ρ x = v) (hy : ρ y = u) : (execOp ρ o).run Try.prog w = .ok (.enter 48 #[v, u]) w := by
  obtain ⟨callee, args, ats⟩ := c
  obtain ⟨al⟩ := args
  simp only at hc ha
  subst hc ha
  simp [execOp, ho, hf, hx, hy, go_sem]
theorem run_ix (o : Oper) (ρ : Operand → Value) (w : World) (x y : Operand) (b len j : Nat) (hj : j < len) (ho : o.op = .indexAddr 50 x y)
    (hx : ρ x = .slice (some ⟨b, 0, none⟩) len len) (hy : ρ y = .int .i64 j) : (execOp ρ o).run Try.prog w = .ok (.value (.pointer (some ⟨b, j, none⟩))) w := by
  simp [execOp, ho, hx, hy, hj, go_sem]
theorem run_ld (o : Oper) (ρ : Operand → Value) (w : World) (x : Operand) (b j : Nat) (n : Int) (ho : o.op = .load 3 x)
    (hx : ρ x = .pointer (some ⟨b, j, none⟩)) (hc : w.cell? ⟨b, j, none⟩ = some (.int .i64 n)) : (execOp ρ o).run Try.prog w = .ok (.value (.int .i64 n)) w := by
  simp [execOp, ho, hx, hc, go_sem]
/-- A struct of two ints. -/
structure SOk (S : TypeId) : Prop where
  build : ∀ (o : Oper) (ρ : Operand → Value) (w : World) (x y : Operand) (m n : Int), o.op = .build S #[(0, x), (1, y)] → ρ x = .int .i64 m → ρ y = .int .i64 n → (execOp ρ o).run Try.prog w = .ok (.value (.agg (ints [m, n]))) w
  alloc : ∀ (o : Oper) (ρ : Operand → Value) (w : World), o.op = .alloc S → (execOp ρ o).run Try.prog w = .ok (.value (.pointer (some ⟨w.heap.size, 0, none⟩))) (w.alloc (.cells (ints [0, 0]) S))
  load : ∀ (o : Oper) (ρ : Operand → Value) (w : World) (x : Operand) (b : Nat) (m n : Int), o.op = .load S x → ρ x = .pointer (some ⟨b, 0, none⟩) → w.cell? ⟨b, 0, none⟩ = some (.int .i64 m) → w.cell? ⟨b, 1, none⟩ = some (.int .i64 n) → (execOp ρ o).run Try.prog w = .ok (.value (.agg (ints [m, n]))) w
  field : ∀ (o : Oper) (ρ : Operand → Value) (w : World) (x : Operand) (b i : Nat), i < 2 → o.op = .fieldAddr S x i → ρ x = .pointer (some ⟨b, 0, none⟩) → (execOp ρ o).run Try.prog w = .ok (.value (.pointer (some ⟨b, i, none⟩))) w
end Go.Proofs.Ytalalapjanckdaa
