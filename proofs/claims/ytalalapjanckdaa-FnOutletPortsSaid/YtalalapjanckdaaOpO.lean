/- Single operations of drawn regions over outlets and flows, run. No condition. -/
import Derived.Test.YtalalapjanckdaaOpS
import Derived.Test.YtalalapjanckdaaRegP
import Derived.Test.YtalalapjanckdaaMB
import Derived.Shelf.Abstract
namespace Go.Proofs.Ytalalapjanckdaa
open Go.RowKit
/-- What the walk is told of flows that came in. -/
def IsFlws (w : World) (a : Option Addr) (n cap : Nat) (fs : List F5) : Prop := fs.length = n ∧ n ≤ cap ∧ cap ≤ maxLen ∧ (a = none → n = 0 ∧ cap = 0) ∧ Flws w a fs
theorem run_ldOl (o : Oper) (ρ : Operand → Value) (w : World) (x : Operand) (b : Nat) (u v t : Value) (ho : o.op = .load 37 x) (hx : ρ x = .pointer (some ⟨b, 0, none⟩)) (hb : Box w b 37 [u, v, t]) :
    (execOp ρ o).run Try.prog w = .ok (.value (.agg #[u, v, t])) w := by
  obtain ⟨c0, c1, c2, _⟩ := hb.three
  simp [execOp, ho, hx, c0, c1, c2, go_sem]
theorem run_ldOi (o : Oper) (ρ : Operand → Value) (w : World) (x : Operand) (b : Nat) (u v t : Value) (ho : o.op = .load 25 x) (hx : ρ x = .pointer (some ⟨b, 0, none⟩)) (hb : Box w b 25 [u, v, t]) :
    (execOp ρ o).run Try.prog w = .ok (.value (.agg #[u, v, t])) w := by
  obtain ⟨c0, c1, c2, _⟩ := hb.three
  simp [execOp, ho, hx, c0, c1, c2, go_sem]
theorem run_alOi (o : Oper) (ρ : Operand → Value) (w : World) (ho : o.op = .alloc 25) :
    (execOp ρ o).run Try.prog w = .ok (.value (.pointer (some ⟨w.heap.size, 0, none⟩))) (w.alloc (.cells [Value.int .i64 0, .int .i64 0, .slice none 0 0].toArray 25)) := by
  simp [execOp, ho, go_sem]
theorem run_alFi (o : Oper) (ρ : Operand → Value) (w : World) (ho : o.op = .alloc 27) :
    (execOp ρ o).run Try.prog w = .ok (.value (.pointer (some ⟨w.heap.size, 0, none⟩))) (w.alloc (.cells [Value.int .i64 0, .int .i64 0, .int .i64 0, .int .i64 0, .int .i64 0].toArray 27)) := by
  simp [execOp, ho, go_sem]
theorem st5_Fi (o : Oper) (ρ : Operand → Value) (w : World) (x y : Operand) (b : Nat) (c0 c1 c2 c3 c4 : Value) (u0 u1 u2 u3 u4 : Int) (ho : o.op = .store 27 x y) (hx : ρ x = .pointer (some ⟨b, 0, none⟩)) (hy : ρ y = .agg #[.int .i64 u0, .int .i64 u1, .int .i64 u2, .int .i64 u3, .int .i64 u4]) (hb : Box w b 27 [c0, c1, c2, c3, c4]) :
    ∃ w', (execOp ρ o).run Try.prog w = .ok .skip w' ∧ Box w' b 27 (Value.agg #[.int .i64 u0, .int .i64 u1, .int .i64 u2, .int .i64 u3, .int .i64 u4]).cells.toList ∧ w.grownBy w' (some b) ∧ w'.heap.size = w.heap.size := by
  obtain ⟨h0, h1, h2, h3, h4, hf⟩ := hb.five
  refine ⟨((((w.setCell ⟨b, 0, none⟩ (.int .i64 u0)).setCell ⟨b, 1, none⟩ (.int .i64 u1)).setCell ⟨b, 2, none⟩ (.int .i64 u2)).setCell ⟨b, 3, none⟩ (.int .i64 u3)).setCell ⟨b, 4, none⟩ (.int .i64 u4), ?_, ?_, ?_, ?_⟩
  · have e1 := (hb.set 0 (.int .i64 u0)).cell 1
    have e2 := ((hb.set 0 (.int .i64 u0)).set 1 (.int .i64 u1)).cell 2
    have e3 := (((hb.set 0 (.int .i64 u0)).set 1 (.int .i64 u1)).set 2 (.int .i64 u2)).cell 3
    have e4 := ((((hb.set 0 (.int .i64 u0)).set 1 (.int .i64 u1)).set 2 (.int .i64 u2)).set 3 (.int .i64 u3)).cell 4
    simp [execOp, ho, hx, hy, h0, h1, h2, h3, h4, hf, go_sem]
  · exact ((((hb.set 0 _).set 1 _).set 2 _).set 3 _).set 4 _
  · exact grownBy_tr (grownBy_tr (grownBy_tr (grownBy_tr (gb_setp _ _ _) (gb_setp _ ⟨b, 1, none⟩ _)) (gb_setp _ ⟨b, 2, none⟩ _)) (gb_setp _ ⟨b, 3, none⟩ _)) (gb_setp _ ⟨b, 4, none⟩ _)
  · simp
/-- A flow's box. -/
theorem st_flow {ρ : Operand → Value} {o : Oper} {w : World} {u0 u1 u2 u3 u4 : Int} {c d : Tmp} (ho : o.op = .store 27 (.tmp c) (.tmp d)) (g : Nat) (cs : List Value) (u : Value)
    (hx : ρ (.tmp c) = .pointer (some ⟨g, 0, none⟩)) (hy : ρ (.tmp d) = u) (hb : Box w g 27 cs)
    (hc : cs = [.int .i64 0, .int .i64 0, .int .i64 0, .int .i64 0, .int .i64 0] ∨ ∃ u', cs = u'.cells.toList ∧ (SP.val (.agg #[.int .i64 u0, .int .i64 u1, .int .i64 u2, .int .i64 u3, .int .i64 u4])).Has u' w) (hu : (SP.val (.agg #[.int .i64 u0, .int .i64 u1, .int .i64 u2, .int .i64 u3, .int .i64 u4])).Has u w) :
    ∃ w', (execOp ρ o).run Try.prog w = .ok .skip w' ∧ Box w' g 27 u.cells.toList ∧ w.grownBy w' (some g) ∧ w'.heap.size = w.heap.size := by
  have hu' : u = .agg #[.int .i64 u0, .int .i64 u1, .int .i64 u2, .int .i64 u3, .int .i64 u4] := hu
  subst hu'
  have h3 : ∃ c0 c1 c2 c3 c4, cs = [c0, c1, c2, c3, c4] := by
    rcases hc with h | ⟨u', h, h'⟩
    · exact ⟨_, _, _, _, _, h⟩
    · have h'' : u' = .agg #[.int .i64 u0, .int .i64 u1, .int .i64 u2, .int .i64 u3, .int .i64 u4] := h'
      subst h''; exact ⟨_, _, _, _, _, h⟩
  obtain ⟨c0, c1, c2, c3, c4, rfl⟩ := h3
  exact st5_Fi o ρ w _ _ g c0 c1 c2 c3 c4 u0 u1 u2 u3 u4 ho hx hy hb
/-- A store of three values, one cell each, into a box of three. -/
theorem st3_Oi (o : Oper) (ρ : Operand → Value) (w : World) (x y : Operand) (b : Nat) (c0 c1 c2 : Value) (u v : Int) (a : Option Addr) (n c : Nat) (ho : o.op = .store 25 x y) (hx : ρ x = .pointer (some ⟨b, 0, none⟩)) (hy : ρ y = .agg #[.int .i64 u, .int .i64 v, .slice a n c]) (hb : Box w b 25 [c0, c1, c2]) :
    ∃ w', (execOp ρ o).run Try.prog w = .ok .skip w' ∧ Box w' b 25 (Value.agg #[.int .i64 u, .int .i64 v, .slice a n c]).cells.toList ∧ w.grownBy w' (some b) ∧ w'.heap.size = w.heap.size := by
  obtain ⟨h0, h1, h2, hf⟩ := hb.three
  refine ⟨((w.setCell ⟨b, 0, none⟩ (.int .i64 u)).setCell ⟨b, 1, none⟩ (.int .i64 v)).setCell ⟨b, 2, none⟩ (.slice a n c), ?_, ?_, ?_, ?_⟩
  · have e1 : (w.setCell ⟨b, 0, none⟩ (.int .i64 u)).cell? ⟨b, 1, none⟩ = some c1 := (hb.set 0 _).cell 1
    have e2 : ((w.setCell ⟨b, 0, none⟩ (.int .i64 u)).setCell ⟨b, 1, none⟩ (.int .i64 v)).cell? ⟨b, 2, none⟩ = some c2 := ((hb.set 0 _).set 1 _).cell 2
    simp [execOp, ho, hx, hy, h0, h1, h2, hf, go_sem]
  · exact ((hb.set 0 _).set 1 _).set 2 _
  · exact grownBy_tr (grownBy_tr (gb_setp _ _ _) (gb_setp _ ⟨b, 1, none⟩ _)) (gb_setp _ ⟨b, 2, none⟩ _)
  · simp
/-- An outlet's box, once its row is laid. -/
theorem st_outlet {ρ : Operand → Value} {o : Oper} {w : World} {B n : Nat} {vs : List Value} {N R : Int} {c d : Tmp} {T : TypeId} (ho : o.op = .store 25 (.tmp c) (.tmp d)) (g : Nat) (cs : List Value) (u : Value)
    (hx : ρ (.tmp c) = .pointer (some ⟨g, 0, none⟩)) (hy : ρ (.tmp d) = u) (hb : Box w g 25 cs)
    (hc : cs = [.int .i64 0, .int .i64 0, .slice none 0 0] ∨ ∃ u', cs = u'.cells.toList ∧ (SP.row B T 5 n vs (fun s => .agg #[.int .i64 N, .int .i64 R, s])).Has u' w) (hu : (SP.row B T 5 n vs (fun s => .agg #[.int .i64 N, .int .i64 R, s])).Has u w) :
    ∃ w', (execOp ρ o).run Try.prog w = .ok .skip w' ∧ Box w' g 25 u.cells.toList ∧ w.grownBy w' (some g) ∧ w'.heap.size = w.heap.size := by
  obtain ⟨a, k, rfl, hr⟩ := hu
  have h3 : ∃ c0 c1 c2, cs = [c0, c1, c2] := by
    rcases hc with h | ⟨u', h, a', k', h', _⟩
    · exact ⟨_, _, _, h⟩
    · subst h'; exact ⟨_, _, _, h⟩
  obtain ⟨c0, c1, c2, rfl⟩ := h3
  exact st3_Oi o ρ w _ _ g c0 c1 c2 N R a n k ho hx hy hb
/-- A row of flows that is not just one free slot is no new flow's box. -/
theorem row_ne5 {w : World} {B n cap : Nat} {a : Option Addr} {fs : List F5} {g : Nat} (h : w.ownsRow B 27 5 (.slice a n cap) n (fCells fs)) (hb : Box w g 27 [.int .i64 0, .int .i64 0, .int .i64 0, .int .i64 0, .int .i64 0]) (hne : fs ≠ [z5]) (hn : 0 < n) : (Value.slice a n cap).ownBlock ≠ some g := by
  intro hk
  have hl := FlwRow.len h
  rcases h.2 with ⟨_, h2⟩ | ⟨g', c, cur, h1, _, hg, hnc, _, hcs, ht⟩
  · omega
  · rw [h1] at hk
    have : g' = g := by simpa [Value.ownBlock] using hk
    subst this
    rw [Box, hg] at hb
    injection hb with hb
    injection hb with hb _ _
    have hc5 : cur.size = 5 := by rw [hb]; rfl
    have hn1 : n = 1 := by omega
    subst hn1
    rw [hb] at ht
    match fs, hl with
    | [f], _ =>
      obtain ⟨x0, x1, x2, x3, x4⟩ := f
      simp [fCells, fInts, fI] at ht
      obtain ⟨rfl, rfl, rfl, rfl, rfl⟩ := ht
      exact hne rfl
/-- An outlet's box, of a value that is known. -/
theorem st_outletV {ρ : Operand → Value} {o : Oper} {w : World} {N R : Int} {a : Option Addr} {n k : Nat} {c d : Tmp} (ho : o.op = .store 25 (.tmp c) (.tmp d)) (g : Nat) (cs : List Value) (u : Value)
    (hx : ρ (.tmp c) = .pointer (some ⟨g, 0, none⟩)) (hy : ρ (.tmp d) = u) (hb : Box w g 25 cs)
    (hc : cs = [.int .i64 0, .int .i64 0, .slice none 0 0] ∨ ∃ u', cs = u'.cells.toList ∧ (SP.val (.agg #[.int .i64 N, .int .i64 R, .slice a n k])).Has u' w) (hu : (SP.val (.agg #[.int .i64 N, .int .i64 R, .slice a n k])).Has u w) :
    ∃ w', (execOp ρ o).run Try.prog w = .ok .skip w' ∧ Box w' g 25 u.cells.toList ∧ w.grownBy w' (some g) ∧ w'.heap.size = w.heap.size := by
  have hu' : u = .agg #[.int .i64 N, .int .i64 R, .slice a n k] := hu
  subst hu'
  have h3 : ∃ c0 c1 c2, cs = [c0, c1, c2] := by
    rcases hc with h | ⟨u', h, h'⟩
    · exact ⟨_, _, _, h⟩
    · have h'' : u' = .agg #[.int .i64 N, .int .i64 R, .slice a n k] := h'
      subst h''; exact ⟨_, _, _, h⟩
  obtain ⟨c0, c1, c2, rfl⟩ := h3
  exact st3_Oi o ρ w _ _ g c0 c1 c2 N R a n k ho hx hy hb
end Go.Proofs.Ytalalapjanckdaa
