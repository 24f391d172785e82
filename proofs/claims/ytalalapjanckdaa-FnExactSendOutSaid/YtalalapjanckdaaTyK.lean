/- The checker is right: an operation of a kind that it knows leaves a value of the type that it gives. -/
import Derived.Test.YtalalapjanckdaaTyR
namespace Go.Proofs.Ytalalapjanckdaa
open Go.RowKit
def opndsK : Kd → List Operand
  | .mv x => [x]
  | .pk x y => [x, y]
  | .mul x y => [x, y]
  | .add x y => [x, y]
  | .sub x y => [x, y]
  | .quo x y => [x, y]
  | .eql x y => [x, y]
  | .bs _ ps => ps.map (·.2)
  | .ix x y => [x, y]
  | .ld x => [x]
  | .ldS x => [x]
  | .fa x _ => [x]
  | .bd ps => ps.map (·.2)
  | .al  => []
  | .no => []
def usesS : Kd → Bool
  | .ldS _ => true
  | .fa _ _ => true
  | .bd _ => true
  | .al => true
  | _ => false
theorem kind_mv {S : TypeId} {o : Oper} {x : Operand} (h : kindOf S o = .mv x) : o.op = .move x ∨ o.op = .assign x := by
  revert h
  unfold kindOf
  split
  all_goals (try split)
  all_goals (try split)
  all_goals (try split)
  all_goals (intro h; first | cases h | skip)
  all_goals (first | exact .inl ‹_› | exact .inr ‹_› | exact ⟨_, ‹_›⟩ | exact ⟨_, ‹_›, rfl⟩ | exact ⟨_, ‹_›, ‹_›, ‹_›⟩ | (simp_all; done) | (subst_vars; first | assumption | exact ⟨_, ‹_›⟩ | exact ⟨_, ‹_›, rfl⟩ | exact ⟨_, ‹_›, ‹_›, ‹_›⟩))
theorem kind_pk {S : TypeId} {o : Oper} {x : Operand} {y : Operand} (h : kindOf S o = .pk x y) : ∃ c, o.op = .call c ∧ c.callee = .value (.func 48) ∧ c.args.toList = [x, y] := by
  revert h
  unfold kindOf
  split
  all_goals (try split)
  all_goals (try split)
  all_goals (try split)
  all_goals (intro h; first | cases h | skip)
  all_goals (first | exact .inl ‹_› | exact .inr ‹_› | exact ⟨_, ‹_›⟩ | exact ⟨_, ‹_›, rfl⟩ | exact ⟨_, ‹_›, ‹_›, ‹_›⟩ | (simp_all; done) | (subst_vars; first | assumption | exact ⟨_, ‹_›⟩ | exact ⟨_, ‹_›, rfl⟩ | exact ⟨_, ‹_›, ‹_›, ‹_›⟩))
theorem kind_mul {S : TypeId} {o : Oper} {x : Operand} {y : Operand} (h : kindOf S o = .mul x y) : ∃ u, o.op = .binOp .mul 3 x y u := by
  revert h
  unfold kindOf
  split
  all_goals (try split)
  all_goals (try split)
  all_goals (try split)
  all_goals (intro h; first | cases h | skip)
  all_goals (first | exact .inl ‹_› | exact .inr ‹_› | exact ⟨_, ‹_›⟩ | exact ⟨_, ‹_›, rfl⟩ | exact ⟨_, ‹_›, ‹_›, ‹_›⟩ | (simp_all; done) | (subst_vars; first | assumption | exact ⟨_, ‹_›⟩ | exact ⟨_, ‹_›, rfl⟩ | exact ⟨_, ‹_›, ‹_›, ‹_›⟩))
theorem kind_add {S : TypeId} {o : Oper} {x : Operand} {y : Operand} (h : kindOf S o = .add x y) : ∃ u, o.op = .binOp .add 3 x y u := by
  revert h
  unfold kindOf
  split
  all_goals (try split)
  all_goals (try split)
  all_goals (try split)
  all_goals (intro h; first | cases h | skip)
  all_goals (first | exact .inl ‹_› | exact .inr ‹_› | exact ⟨_, ‹_›⟩ | exact ⟨_, ‹_›, rfl⟩ | exact ⟨_, ‹_›, ‹_›, ‹_›⟩ | (simp_all; done) | (subst_vars; first | assumption | exact ⟨_, ‹_›⟩ | exact ⟨_, ‹_›, rfl⟩ | exact ⟨_, ‹_›, ‹_›, ‹_›⟩))
theorem kind_sub {S : TypeId} {o : Oper} {x : Operand} {y : Operand} (h : kindOf S o = .sub x y) : ∃ u, o.op = .binOp .sub 3 x y u := by
  revert h
  unfold kindOf
  split
  all_goals (try split)
  all_goals (try split)
  all_goals (try split)
  all_goals (intro h; first | cases h | skip)
  all_goals (first | exact .inl ‹_› | exact .inr ‹_› | exact ⟨_, ‹_›⟩ | exact ⟨_, ‹_›, rfl⟩ | exact ⟨_, ‹_›, ‹_›, ‹_›⟩ | (simp_all; done) | (subst_vars; first | assumption | exact ⟨_, ‹_›⟩ | exact ⟨_, ‹_›, rfl⟩ | exact ⟨_, ‹_›, ‹_›, ‹_›⟩))
theorem kind_quo {S : TypeId} {o : Oper} {x : Operand} {y : Operand} (h : kindOf S o = .quo x y) : ∃ u, o.op = .binOp .quo 3 x y u := by
  revert h
  unfold kindOf
  split
  all_goals (try split)
  all_goals (try split)
  all_goals (try split)
  all_goals (intro h; first | cases h | skip)
  all_goals (first | exact .inl ‹_› | exact .inr ‹_› | exact ⟨_, ‹_›⟩ | exact ⟨_, ‹_›, rfl⟩ | exact ⟨_, ‹_›, ‹_›, ‹_›⟩ | (simp_all; done) | (subst_vars; first | assumption | exact ⟨_, ‹_›⟩ | exact ⟨_, ‹_›, rfl⟩ | exact ⟨_, ‹_›, ‹_›, ‹_›⟩))
theorem kind_eql {S : TypeId} {o : Oper} {x : Operand} {y : Operand} (h : kindOf S o = .eql x y) : ∃ u, o.op = .binOp .eql 3 x y u := by
  revert h
  unfold kindOf
  split
  all_goals (try split)
  all_goals (try split)
  all_goals (try split)
  all_goals (intro h; first | cases h | skip)
  all_goals (first | exact .inl ‹_› | exact .inr ‹_› | exact ⟨_, ‹_›⟩ | exact ⟨_, ‹_›, rfl⟩ | exact ⟨_, ‹_›, ‹_›, ‹_›⟩ | (simp_all; done) | (subst_vars; first | assumption | exact ⟨_, ‹_›⟩ | exact ⟨_, ‹_›, rfl⟩ | exact ⟨_, ‹_›, ‹_›, ‹_›⟩))
theorem kind_bs {S : TypeId} {o : Oper} {n : Nat} {ps : List (Nat × Operand)} (h : kindOf S o = .bs n ps) : ∃ qs, o.op = .buildSlice 50 n qs ∧ qs.toList = ps := by
  revert h
  unfold kindOf
  split
  all_goals (try split)
  all_goals (try split)
  all_goals (try split)
  all_goals (intro h; first | cases h | skip)
  all_goals (first | exact .inl ‹_› | exact .inr ‹_› | exact ⟨_, ‹_›⟩ | exact ⟨_, ‹_›, rfl⟩ | exact ⟨_, ‹_›, ‹_›, ‹_›⟩ | (simp_all; done) | (subst_vars; first | assumption | exact ⟨_, ‹_›⟩ | exact ⟨_, ‹_›, rfl⟩ | exact ⟨_, ‹_›, ‹_›, ‹_›⟩))
theorem kind_ix {S : TypeId} {o : Oper} {x : Operand} {y : Operand} (h : kindOf S o = .ix x y) : o.op = .indexAddr 50 x y := by
  revert h
  unfold kindOf
  split
  all_goals (try split)
  all_goals (try split)
  all_goals (try split)
  all_goals (intro h; first | cases h | skip)
  all_goals (first | exact .inl ‹_› | exact .inr ‹_› | exact ⟨_, ‹_›⟩ | exact ⟨_, ‹_›, rfl⟩ | exact ⟨_, ‹_›, ‹_›, ‹_›⟩ | (simp_all; done) | (subst_vars; first | assumption | exact ⟨_, ‹_›⟩ | exact ⟨_, ‹_›, rfl⟩ | exact ⟨_, ‹_›, ‹_›, ‹_›⟩))
theorem kind_ld {S : TypeId} {o : Oper} {x : Operand} (h : kindOf S o = .ld x) : o.op = .load 3 x := by
  revert h
  unfold kindOf
  split
  all_goals (try split)
  all_goals (try split)
  all_goals (try split)
  all_goals (intro h; first | cases h | skip)
  all_goals (first | exact .inl ‹_› | exact .inr ‹_› | exact ⟨_, ‹_›⟩ | exact ⟨_, ‹_›, rfl⟩ | exact ⟨_, ‹_›, ‹_›, ‹_›⟩ | (simp_all; done) | (subst_vars; first | assumption | exact ⟨_, ‹_›⟩ | exact ⟨_, ‹_›, rfl⟩ | exact ⟨_, ‹_›, ‹_›, ‹_›⟩))
theorem kind_ldS {S : TypeId} {o : Oper} {x : Operand} (h : kindOf S o = .ldS x) : o.op = .load S x := by
  revert h
  unfold kindOf
  split
  all_goals (try split)
  all_goals (try split)
  all_goals (try split)
  all_goals (intro h; first | cases h | skip)
  all_goals (first | exact .inl ‹_› | exact .inr ‹_› | exact ⟨_, ‹_›⟩ | exact ⟨_, ‹_›, rfl⟩ | exact ⟨_, ‹_›, ‹_›, ‹_›⟩ | (simp_all; done) | (subst_vars; first | assumption | exact ⟨_, ‹_›⟩ | exact ⟨_, ‹_›, rfl⟩ | exact ⟨_, ‹_›, ‹_›, ‹_›⟩))
theorem kind_fa {S : TypeId} {o : Oper} {x : Operand} {i : Nat} (h : kindOf S o = .fa x i) : o.op = .fieldAddr S x i := by
  revert h
  unfold kindOf
  split
  all_goals (try split)
  all_goals (try split)
  all_goals (try split)
  all_goals (intro h; first | cases h | skip)
  all_goals (first | exact .inl ‹_› | exact .inr ‹_› | exact ⟨_, ‹_›⟩ | exact ⟨_, ‹_›, rfl⟩ | exact ⟨_, ‹_›, ‹_›, ‹_›⟩ | (simp_all; done) | (subst_vars; first | assumption | exact ⟨_, ‹_›⟩ | exact ⟨_, ‹_›, rfl⟩ | exact ⟨_, ‹_›, ‹_›, ‹_›⟩))
theorem kind_bd {S : TypeId} {o : Oper} {ps : List (Nat × Operand)} (h : kindOf S o = .bd ps) : ∃ qs, o.op = .build S qs ∧ qs.toList = ps := by
  revert h
  unfold kindOf
  split
  all_goals (try split)
  all_goals (try split)
  all_goals (try split)
  all_goals (intro h; first | cases h | skip)
  all_goals (first | exact .inl ‹_› | exact .inr ‹_› | exact ⟨_, ‹_›⟩ | exact ⟨_, ‹_›, rfl⟩ | exact ⟨_, ‹_›, ‹_›, ‹_›⟩ | (simp_all; done) | (subst_vars; first | assumption | exact ⟨_, ‹_›⟩ | exact ⟨_, ‹_›, rfl⟩ | exact ⟨_, ‹_›, ‹_›, ‹_›⟩))
theorem kind_al {S : TypeId} {o : Oper}  (h : kindOf S o = .al ) : o.op = .alloc S := by
  revert h
  unfold kindOf
  split
  all_goals (try split)
  all_goals (try split)
  all_goals (try split)
  all_goals (intro h; first | cases h | skip)
  all_goals (first | exact .inl ‹_› | exact .inr ‹_› | exact ⟨_, ‹_›⟩ | exact ⟨_, ‹_›, rfl⟩ | exact ⟨_, ‹_›, ‹_›, ‹_›⟩ | (simp_all; done) | (subst_vars; first | assumption | exact ⟨_, ‹_›⟩ | exact ⟨_, ‹_›, rfl⟩ | exact ⟨_, ‹_›, ‹_›, ‹_›⟩))
end Go.Proofs.Ytalalapjanckdaa
