/- Single operations of drawn regions, run: calls, loads of structs, new boxes. No condition. -/
import Derived.Test.YtalalapjanckdaaMG
import Derived.Test.YtalalapjanckdaaMB
namespace Go.Proofs.Ytalalapjanckdaa
open Go.RowKit
theorem run_callL (o : Oper) (ρ : Operand → Value) (w : World) (F : FuncId) (xs : Array Operand) (ts : Array TypeId) (vals : Array Value) (ho : o.op = .call { callee := .value (.func F), args := xs, argTypes := ts })
    (hf : ρ (.func F) = .func (.func F) #[] #[]) (hv : xs.map ρ = vals) (eg : ∀ args w, (callFunc F args).run Try.prog w = .ok (.enter F args) w) : (execOp ρ o).run Try.prog w = .ok (.enter F vals) w := by
  subst hv
  simp [execOp, ho, hf, resolve, invoke, eg, go_sem]
theorem run_ldFl (o : Oper) (ρ : Operand → Value) (w : World) (x : Operand) (b : Nat) (c0 c1 c2 c3 c4 : Value) (ho : o.op = .load 38 x) (hx : ρ x = .pointer (some ⟨b, 0, none⟩)) (hb : Box w b 38 [c0, c1, c2, c3, c4]) :
    (execOp ρ o).run Try.prog w = .ok (.value (.agg #[c0, c1, c2, c3, c4])) w := by
  obtain ⟨h0, h1, h2, h3, h4, _⟩ := hb.five
  simp [execOp, ho, hx, h0, h1, h2, h3, h4, go_sem]
theorem run_ldFi (o : Oper) (ρ : Operand → Value) (w : World) (x : Operand) (b : Nat) (c0 c1 c2 c3 c4 : Value) (ho : o.op = .load 27 x) (hx : ρ x = .pointer (some ⟨b, 0, none⟩)) (hb : Box w b 27 [c0, c1, c2, c3, c4]) :
    (execOp ρ o).run Try.prog w = .ok (.value (.agg #[c0, c1, c2, c3, c4])) w := by
  obtain ⟨h0, h1, h2, h3, h4, _⟩ := hb.five
  simp [execOp, ho, hx, h0, h1, h2, h3, h4, go_sem]
theorem run_mv (o : Oper) (ρ : Operand → Value) (w : World) (x : Operand) (v : Value) (hx : ρ x = v) : (o.op = .move x → (execOp ρ o).run Try.prog w = .ok (.value v) w) ∧ (o.op = .assign x → (execOp ρ o).run Try.prog w = .ok (.value v) w) := by
  refine ⟨fun ho => ?_, fun ho => ?_⟩ <;> simp [execOp, ho, hx, go_sem]
end Go.Proofs.Ytalalapjanckdaa
