/- The draw of an outlet. No condition. -/
import Derived.Test.YtalalapjanckdaaRegT
import Derived.Test.YtalalapjanckdaaDFz
import Derived.Test.YtalalapjanckdaaOpl
import Derived.Test.YtalalapjanckdaaOpO
import Derived.Laws.OwnMore
namespace Go.Proofs.Ytalalapjanckdaa
open Go.RowKit
variable {D : Nat}
/-- An outlet under construction: its box b, its row, the result's box, the reader. -/
structure OuC (D g b q : Nat) (w : World) (N R : Int) (es : List F5) (a : Option Addr) (cap : Nat) (wr : World) : Prop where
  bx : Box wr b 25 [.int .i64 N, .int .i64 R, .slice a es.length cap]
  own : wr.ownsRow w.heap.size 27 5 (.slice a es.length cap) es.length (fCells es)
  res : Box wr w.heap.size 25 [.int .i64 0, .int .i64 0, .slice none 0 0]
  lo : w.heap.size < b
  gw : g < w.heap.size
  rd : Rd D wr g q
  gr : w.grownBy wr (some g)
section
variable {g b q : Nat} {w wr : World} {N R : Int} {es : List F5} {a : Option Addr} {cap : Nat}
theorem OuC.by (h : OuC D g b q w N R es a cap wr) {w' : World} {q' : Nat} (hg : wr.grownBy w' (some g)) (hr : Rd D w' g q') : OuC D g b q' w N R es a cap w' :=
  ⟨h.bx.by hg (by have := h.lo; have := h.gw; omega), row_kept h.own hg (fun k hk e => by have := (h.own.lt k hk).1; have := h.gw; injection e; omega), h.res.by hg (by have := h.gw; omega), h.lo, h.gw, hr, grownBy_tr h.gr hg⟩
theorem OuC.alloc (h : OuC D g b q w N R es a cap wr) (o : Obj) : OuC D g b q w N R es a cap (wr.alloc o) := h.by (grownBy_alloc _ _ _) (h.rd.keep (grownBy_alloc _ _ _))
theorem OuC.set0 (h : OuC D g b q w N R es a cap wr) (u : Int) : OuC D g b q w u R es a cap (wr.setCell ⟨b, 0, none⟩ (.int .i64 u)) :=
  ⟨h.bx.set 0 _, row_set h.own _ _ (row_ne h.own h.bx (by decide)), h.res.other (by have := h.lo; simp; omega) _, h.lo, h.gw, h.rd.other (by have := h.rd.1; have := h.lo; have := h.gw; omega) (by have := h.lo; have := h.gw; omega) _ _, gb_set h.gr (b := b) (by have := h.lo; omega) _ _⟩
theorem OuC.set1 (h : OuC D g b q w N R es a cap wr) (u : Int) : OuC D g b q w N u es a cap (wr.setCell ⟨b, 1, none⟩ (.int .i64 u)) :=
  ⟨h.bx.set 1 _, row_set h.own _ _ (row_ne h.own h.bx (by decide)), h.res.other (by have := h.lo; simp; omega) _, h.lo, h.gw, h.rd.other (by have := h.rd.1; have := h.lo; have := h.gw; omega) (by have := h.lo; have := h.gw; omega) _ _, gb_set h.gr (b := b) (by have := h.lo; omega) _ _⟩
theorem OuC.set2 {es' : List F5} {a' : Option Addr} {cap' : Nat} (h : OuC D g b q w N R es a cap wr) (ho : wr.ownsRow w.heap.size 27 5 (.slice a' es'.length cap') es'.length (fCells es')) : OuC D g b q w N R es' a' cap' (wr.setCell ⟨b, 2, none⟩ (.slice a' es'.length cap')) :=
  ⟨h.bx.set 2 _, row_set ho _ _ (row_ne ho h.bx (by decide)), h.res.other (by have := h.lo; simp; omega) _, h.lo, h.gw, h.rd.other (by have := h.rd.1; have := h.lo; have := h.gw; omega) (by have := h.lo; have := h.gw; omega) _ _, gb_set h.gr (b := b) (by have := h.lo; omega) _ _⟩
/-- Another outlet altogether is laid into the box. -/
theorem OuC.turn {N' R' : Int} {es' : List F5} {a' : Option Addr} {cap' : Nat} (h : OuC D g b q w N R es a cap wr) (ho : wr.ownsRow w.heap.size 27 5 (.slice a' es'.length cap') es'.length (fCells es')) :
    OuC D g b q w N' R' es' a' cap' (((wr.setCell ⟨b, 0, none⟩ (.int .i64 N')).setCell ⟨b, 1, none⟩ (.int .i64 R')).setCell ⟨b, 2, none⟩ (.slice a' es'.length cap')) :=
  ((h.set0 N').set1 R').set2 (row_set (row_set ho _ _ (row_ne ho h.bx (by decide))) _ _ (row_ne ho h.bx (by decide)))
end
/-- What only turns a new row has turned only the reader. -/
theorem gb_row9 {w w1 w2 : World} {g : Nat} {r : Option Nat} (h : w.grownBy w1 (some g)) (k : w1.grownBy w2 r) (hr : ∀ q, r = some q → w.heap.size ≤ q) : w.grownBy w2 (some g) :=
  ⟨k.os.trans h.os, k.tape.trans h.tape, k.output.trans h.output, Nat.le_trans h.size k.size, fun i hi hn => (k.block i (Nat.lt_of_lt_of_le hi h.size) (fun e => by have := hr i e.symm; omega)).trans (h.block i hi hn)⟩
theorem run_extR (o : Oper) (ρ : Operand → Value) (w : World) (x : Operand) (k : Nat) (vs : Array Value) (v : Value) (ho : o.op = .extract x k) (hx : ρ x = .tuple vs) (hv : vs[k]? = some v) : (execOp ρ o).run Try.prog w = .ok (.value v) w := by
  simp [execOp, ho, hx, hv, go_sem]
def FlowP (v : Value) : Prop := ∃ x0 x1 x2 x3 x4 : Int, v = .agg #[.int .i64 x0, .int .i64 x1, .int .i64 x2, .int .i64 x3, .int .i64 x4]
def FlowQ (v : Value) : Prop := ∃ x0 x1 x2 x3 x4 : Int, v = .agg #[.int .i64 x0, .int .i64 x1, .int .i64 x2, .int .i64 x3, .int .i64 x4] ∧ fv (x0, x1, x2, x3, x4) = true
def BoolP (v : Value) : Prop := ∃ bb : Bool, v = .bool bb
def IntP (v : Value) : Prop := ∃ x : Int, v = .int .i64 x
/-- A new list of the three firsts. -/
def L3 (B : Nat) (v : Value) (w : World) : Prop := ∃ (k : Nat) (x : Int), v = .slice (some ⟨k, 0, none⟩) 3 3 ∧ B ≤ k ∧ 0 ≤ x ∧ x < 256 ∧ Box w k 3 [.int .i64 500, .int .i64 x, .int .i64 992]
def A3 (B : Nat) (v : Value) (w : World) : Prop := ∃ (k j : Nat) (x : Int), v = .pointer (some ⟨k, j, none⟩) ∧ j < 3 ∧ B ≤ k ∧ 0 ≤ x ∧ x < 256 ∧ Box w k 3 [.int .i64 500, .int .i64 x, .int .i64 992]
/-- A new row of free slots. -/
def Z5 (B : Nat) (v : Value) (w : World) : Prop := ∃ (m k : Nat), v = .slice (some ⟨k, 0, none⟩) m m ∧ 1 ≤ m ∧ m ≤ 5 ∧ w.ownsRow B 27 5 (.slice (some ⟨k, 0, none⟩) m m) m (fCells (List.replicate m z5))
def O5 (B : Nat) (v : Value) (w : World) : Prop := ∃ (N R : Int) (m k : Nat), v = .agg #[.int .i64 N, .int .i64 R, .slice (some ⟨k, 0, none⟩) m m] ∧ inB N 0 255 = true ∧ 0 ≤ R ∧ R ≤ 992 ∧ 1 ≤ m ∧ m ≤ 5 ∧ w.ownsRow B 27 5 (.slice (some ⟨k, 0, none⟩) m m) m (fCells (List.replicate m z5))
/-- A new box of an outlet, of a flow. -/
def BxO (B : Nat) (v : Value) (w : World) : Prop := ∃ k : Nat, v = .pointer (some ⟨k, 0, none⟩) ∧ B ≤ k ∧ Box w k 25 [.int .i64 0, .int .i64 0, .slice none 0 0]
def BxF (B : Nat) (v : Value) (w : World) : Prop := ∃ k : Nat, v = .pointer (some ⟨k, 0, none⟩) ∧ B ≤ k ∧ Box w k 27 [.int .i64 0, .int .i64 0, .int .i64 0, .int .i64 0, .int .i64 0]
/-- A valid outlet of m slots, its list a new one. -/
def VO (B m : Nat) (v : Value) (w : World) : Prop := ∃ (N R : Int) (fs : List F5) (a : Option Addr) (c : Nat), v = .agg #[.int .i64 N, .int .i64 R, .slice a fs.length c] ∧ ov N R fs = true ∧ fs.length = m ∧ fs ≠ [z5] ∧ w.ownsRow B 27 5 (.slice a fs.length c) fs.length (fCells fs)
def VS (B m : Nat) (v : Value) (w : World) : Prop := ∃ (u : Value) (f : F5) (bb : Bool), v = .tuple #[u, fvv f, .bool bb] ∧ VO B m u w
def CO (B m : Nat) (v : Value) (w : World) : Prop := ∃ (N R : Int) (fs : List F5) (a : Option Addr) (c : Nat), v = .agg #[.int .i64 N, .int .i64 R, .slice a fs.length c] ∧ ov N R fs = true ∧ fs.length = m ∧ w.ownsRow B 27 5 (.slice a fs.length c) fs.length (fCells fs)
def FlowS (B : Nat) (v : Value) (w : World) : Prop := ∃ (k : Nat) (x0 x1 x2 x3 x4 : Int), v = .slice (some ⟨k, 0, none⟩) 1 1 ∧ B ≤ k ∧ Box w k 27 [.int .i64 x0, .int .i64 x1, .int .i64 x2, .int .i64 x3, .int .i64 x4]
section
variable {g B m : Nat}
theorem L3.stb (hgB : g < B) : Stb g B [] (L3 B) := fun _ _ _ ⟨k, x, h1, h2, h3, h4, h5⟩ hg => ⟨k, x, h1, h2, h3, h4, gr_box hg (by omega) (.inl (fun s hs => by cases hs)) h5⟩
theorem A3.stb (hgB : g < B) : Stb g B [] (A3 B) := fun _ _ _ ⟨k, j, x, h1, h2, h3, h4, h5, h6⟩ hg => ⟨k, j, x, h1, h2, h3, h4, h5, gr_box hg (by omega) (.inl (fun s hs => by cases hs)) h6⟩
theorem Z5.stb (hgB : g < B) : Stb g B [] (Z5 B) := fun _ _ _ ⟨m, k, h1, h2, h3, h4⟩ hg => ⟨m, k, h1, h2, h3, gr_row hg hgB (fun s hs => by cases hs) h4⟩
theorem O5.stb (hgB : g < B) : Stb g B [] (O5 B) := fun _ _ _ ⟨N, R, m, k, h1, h2, h3, h4, h5, h6, h7⟩ hg => ⟨N, R, m, k, h1, h2, h3, h4, h5, h6, gr_row hg hgB (fun s hs => by cases hs) h7⟩
theorem BxO.stb (hgB : g < B) : Stb g B [] (BxO B) := fun _ _ _ ⟨k, h1, h2, h3⟩ hg => ⟨k, h1, h2, gr_box hg (by omega) (.inl (fun s hs => by cases hs)) h3⟩
theorem BxF.stb (hgB : g < B) : Stb g B [] (BxF B) := fun _ _ _ ⟨k, h1, h2, h3⟩ hg => ⟨k, h1, h2, gr_box hg (by omega) (.inl (fun s hs => by cases hs)) h3⟩
theorem VO.stb (hgB : g < B) : Stb g B [] (VO B m) := fun _ _ _ ⟨N, R, fs, a, c, h1, h2, h3, h4, h5⟩ hg => ⟨N, R, fs, a, c, h1, h2, h3, h4, gr_row hg hgB (fun s hs => by cases hs) h5⟩
theorem VS.stb (hgB : g < B) : Stb g B [] (VS B m) := fun _ _ _ ⟨u, f, bb, h1, h2⟩ hg => ⟨u, f, bb, h1, VO.stb hgB _ _ _ h2 hg⟩
theorem CO.stb (hgB : g < B) : Stb g B [] (CO B m) := fun _ _ _ ⟨N, R, fs, a, c, h1, h2, h3, h5⟩ hg => ⟨N, R, fs, a, c, h1, h2, h3, gr_row hg hgB (fun s hs => by cases hs) h5⟩
theorem FlowS.stb (hgB : g < B) : Stb g B [] (FlowS B) := fun _ _ _ ⟨k, x0, x1, x2, x3, x4, h1, h2, h3⟩ hg => ⟨k, x0, x1, x2, x3, x4, h1, h2, gr_box hg (by omega) (.inl (fun s hs => by cases hs)) h3⟩
end
theorem run_bs3i (o : Oper) (ρ : Operand → Value) (w : World) (x : Operand) (n : Int) (ho : o.op = .buildSlice 50 3 #[(0, .const (.int .i64 500)), (1, x), (2, .const (.int .i64 992))]) (hk : ∀ v, ρ (.const v) = v) (hx : ρ x = .int .i64 n) :
    (execOp ρ o).run Try.prog w = .ok (.value (.slice (some ⟨w.heap.size, 0, none⟩) 3 3)) (w.alloc (.cells #[.int .i64 500, .int .i64 n, .int .i64 992] 3)) := by
  simp [execOp, ho, hx, hk, go_sem]
theorem run_addc (o : Oper) (ρ : Operand → Value) (w : World) (y : Operand) (n : Nat) (u : TypeId) (ho : o.op = .binOp .add 3 (.const (.int .i64 1)) y u) (hk : ∀ v, ρ (.const v) = v) (hy : ρ y = .int .i64 n) (hn : n ≤ 100) : (execOp ρ o).run Try.prog w = .ok (.value (.int .i64 ((n + 1 : Nat) : Int))) w := by
  have hi : IntKind.i64.wrap (1 + (n : Int)) = 1 + (n : Int) := IntWalk.i64_in _ (by omega)
  have e : ((n + 1 : Nat) : Int) = 1 + (n : Int) := by omega
  rw [e]
  simp [execOp, ho, hk, hy, hi, go_sem]
theorem zcells : (Value.agg #[.int .i64 0, .int .i64 0, .int .i64 0, .int .i64 0, .int .i64 0]).cells = #[.int .i64 0, .int .i64 0, .int .i64 0, .int .i64 0, .int .i64 0] := by simp [go_sem]
theorem fzeros : ∀ m, fCells (List.replicate m z5) = List.replicate (m * 5) (.int .i64 0)
  | 0 => rfl
  | m + 1 => by
    have h : fInts (List.replicate (m + 1) z5) = fI z5 ++ fInts (List.replicate m z5) := rfl
    rw [fCells, h, List.map_append, ← fCells, fzeros m, show (m + 1) * 5 = 5 + m * 5 by omega, ← List.replicate_append_replicate]
    rfl
theorem zeros5 (m : Nat) (_ : 1 ≤ m) (_ : m ≤ 9) : (madeCells (Value.agg #[.int .i64 0, .int .i64 0, .int .i64 0, .int .i64 0, .int .i64 0]).cells (m * 5)).toList = fCells (List.replicate m z5) := by
  rw [zcells, fzeros]
  unfold madeCells
  apply List.ext_getElem
  · simp
  · intro i h1 h2
    have h3 : i % 5 = 0 ∨ i % 5 = 1 ∨ i % 5 = 2 ∨ i % 5 = 3 ∨ i % 5 = 4 := by omega
    rcases h3 with h3 | h3 | h3 | h3 | h3 <;> simp [h3]
theorem run_mkF (o : Oper) (ρ : Operand → Value) (w : World) (x y : Operand) (m : Nat) (h1 : 1 ≤ m) (h2 : m ≤ 9) (ho : o.op = .makeSlice 23 x y) (hx : ρ x = .int .i64 m) (hy : ρ y = .int .i64 m) :
    ∃ w', (execOp ρ o).run Try.prog w = .ok (.value (.slice (some ⟨w.heap.size, 0, none⟩) m m)) w' ∧ w'.ownsRow w.heap.size 27 5 (.slice (some ⟨w.heap.size, 0, none⟩) m m) m (fCells (List.replicate m z5)) ∧ w.grownBy w' none := by
  obtain ⟨i0, hi, hz0, hz1, hz2⟩ := info_parts zeroFlow
  obtain ⟨w', hrun, r1, r2⟩ := run_make_full (P := Try.prog) w w.heap.size 23 27 i0 (.agg #[.int .i64 0, .int .i64 0, .int .i64 0, .int .i64 0, .int .i64 0]) 5 Try.underlying23 hi hz0 hz1 .i64 .i64 m (by rw [hz2]; omega) (by unfold maxLen; omega) (Nat.le_refl _)
  refine ⟨w', ?_, by rw [← zeros5 m h1 h2]; exact r1, r2⟩
  simp [execOp, ho, hx, hy, hrun, Result.andThen]
theorem run_bO (o : Oper) (ρ : Operand → Value) (w : World) (x y z : Operand) (N R : Int) (q : Value) (ho : o.op = .build 25 #[(0, x), (1, y), (2, z)]) (h0 : ρ x = .int .i64 N) (h1 : ρ y = .int .i64 R) (h2 : ρ z = q) (a : Option Addr) (n c : Nat) (hq : q = .slice a n c) :
    (execOp ρ o).run Try.prog w = .ok (.value (.agg #[.int .i64 N, .int .i64 R, q])) w := by
  subst hq
  simp [execOp, ho, h0, h1, h2, go_sem]
theorem run_ldOs (o : Oper) (ρ : Operand → Value) (w : World) (x : Operand) (b i : Nat) (v : Value) (ho : o.op = .load 23 x) (hx : ρ x = .pointer (some ⟨b, i, none⟩)) (hc : w.cell? ⟨b, i, none⟩ = some v) : (execOp ρ o).run Try.prog w = .ok (.value v) w := by
  simp [execOp, ho, hx, hc, go_sem]
theorem run_faO (o : Oper) (ρ : Operand → Value) (w : World) (x : Operand) (b : Nat) (ho : o.op = .fieldAddr 25 x 2) (hx : ρ x = .pointer (some ⟨b, 0, none⟩)) : (execOp ρ o).run Try.prog w = .ok (.value (.pointer (some ⟨b, 2, none⟩))) w := by
  simp [execOp, ho, hx, go_sem]
theorem run_ixF (o : Oper) (ρ : Operand → Value) (w : World) (x y : Operand) (b off n c j : Nat) (hj : j < n) (ho : o.op = .indexAddr 23 x y)
    (hx : ρ x = .slice (some ⟨b, off, none⟩) n c) (hy : ρ y = .int .i64 j) : (execOp ρ o).run Try.prog w = .ok (.value (.pointer (some ⟨b, off + j * 5, none⟩))) w := by
  simp [execOp, ho, hx, hy, hj, go_sem]
theorem run_ix3 (o : Oper) (ρ : Operand → Value) (w : World) (x y : Operand) (b j : Nat) (hj : j < 3) (ho : o.op = .indexAddr 50 x y)
    (hx : ρ x = .slice (some ⟨b, 0, none⟩) 3 3) (hy : ρ y = .int .i64 j) : (execOp ρ o).run Try.prog w = .ok (.value (.pointer (some ⟨b, j, none⟩))) w := run_ix o ρ w x y b 3 j hj ho hx hy
theorem run_bsF (o : Oper) (ρ : Operand → Value) (w : World) (x : Operand) (m0 m1 m2 m3 m4 : Int) (ho : o.op = .buildSlice 23 1 #[(0, x)]) (hx : ρ x = .agg #[.int .i64 m0, .int .i64 m1, .int .i64 m2, .int .i64 m3, .int .i64 m4]) :
    (execOp ρ o).run Try.prog w = .ok (.value (.slice (some ⟨w.heap.size, 0, none⟩) 1 1)) (w.alloc (.cells #[.int .i64 m0, .int .i64 m1, .int .i64 m2, .int .i64 m3, .int .i64 m4] 27)) := by
  simp [execOp, ho, hx, go_sem]
theorem send_any {N R v1 v2 : Int} {fs v3 : List F5} {f u : F5} {ok : Bool} (h : ov N R fs = true) (hf : fv f = true) (hs : sendT (N, R, fs) f = ((v1, v2, v3), u, ok)) : ov v1 v2 v3 = true ∧ v3.length = fs.length ∧ v3 ≠ [z5] := by
  have hne : v3 ≠ [z5] := by
    intro e
    subst e
    rcases send_cases h hf with h1 | ⟨k, hk, hV, h1⟩
    · rw [h1] at hs
      simp only [Prod.mk.injEq] at hs
      obtain ⟨⟨_, _, h3⟩, _⟩ := hs
      subst h3
      -- a free slot is there
      unfold sendT at h1
      rw [if_pos (by rw [h, hf]; rfl)] at h1
      rcases slT_cases [z5] f with h4 | ⟨k, h4, _⟩
      · unfold slT at h4
        have : qOf [z5] z5 = (0 : Nat) := qOf_hit (by simp) rfl (fun j hj => by omega)
        rcases qOf_cases [z5] f with ⟨_, h5⟩ | ⟨_, j, h5, _⟩
        · rw [if_pos (by omega), this] at h4; omega
        · rw [if_neg (by omega), h5] at h4; omega
      · rw [if_neg (by dsimp only; omega)] at h1
        simp at h1
    · rw [h1] at hs
      simp only [Prod.mk.injEq] at hs
      obtain ⟨⟨_, _, h3⟩, _⟩ := hs
      have hl : fs.length = 1 := by have := congrArg List.length h3; rw [List.length_set] at this; simpa using this
      have hk0 : k = 0 := by omega
      subst hk0
      have := congrArg (fun l => l.getD 0 z5) h3
      rw [getD_set5 hk, if_pos rfl] at this
      exact fv_ne hf this
  rcases send_cases h hf with h1 | ⟨k, hk, hV, h1⟩
  · rw [h1] at hs
    simp only [Prod.mk.injEq] at hs
    obtain ⟨⟨rfl, rfl, rfl⟩, _⟩ := hs
    exact ⟨h, rfl, hne⟩
  · rw [h1] at hs
    simp only [Prod.mk.injEq] at hs
    obtain ⟨⟨rfl, rfl, rfl⟩, _⟩ := hs
    exact ⟨OV_ov hV, List.length_set .., hne⟩
/-- An outlet is drawn. -/
def RetDO (D : Nat) (w : World) (g p m : Nat) (e : Ending) (w' : World) : Prop :=
  ∃ (N R : Int) (a : Option Addr) (cap : Nat) (fs : List F5), e = .returned (.agg #[.int .i64 N, .int .i64 R, .slice a fs.length cap]) ∧ 1 ≤ fs.length ∧ fs.length ≤ 9 ∧
    w'.ownsRow w.heap.size 27 5 (.slice a fs.length cap) fs.length (fCells fs) ∧ (∃ p', p' ≤ p + m ∧ Rd D w' g p') ∧ w.grownBy w' (some g)
theorem grown_any {w w' : World} {r : Option Nat} (h : w.grownBy w' none) : w.grownBy w' r := ⟨h.os, h.tape, h.output, h.size, fun k hk _ => h.block k hk (by simp)⟩
theorem one5 (x0 x1 x2 x3 x4 : Int) : ∀ u ∈ [Value.int .i64 x0, .int .i64 x1, .int .i64 x2, .int .i64 x3, .int .i64 x4], u.oneCell' = true := by
  intro u hu
  simp only [List.mem_cons, List.not_mem_nil, or_false] at hu
  rcases hu with rfl | rfl | rfl | rfl | rfl <;> rfl
theorem fCells_app1 (fs : List F5) (x0 x1 x2 x3 x4 : Int) : fCells fs ++ [.int .i64 x0, .int .i64 x1, .int .i64 x2, .int .i64 x3, .int .i64 x4] = fCells (fs ++ [(x0, x1, x2, x3, x4)]) := by
  unfold fCells; rw [fInts_app, List.map_append, fInts_one]; rfl
theorem run_ld5c (o : Oper) (ρ : Operand → Value) (w : World) (x : Operand) (b off : Nat) (x0 x1 x2 x3 x4 : Int) (ho : o.op = .load 27 x) (hx : ρ x = .pointer (some ⟨b, off + 0 * 5, none⟩)) (c0 : w.cell? ⟨b, off, none⟩ = some (.int .i64 x0)) (c1 : w.cell? ⟨b, off + 1, none⟩ = some (.int .i64 x1)) (c2 : w.cell? ⟨b, off + 2, none⟩ = some (.int .i64 x2)) (c3 : w.cell? ⟨b, off + 3, none⟩ = some (.int .i64 x3)) (c4 : w.cell? ⟨b, off + 4, none⟩ = some (.int .i64 x4)) :
    (execOp ρ o).run Try.prog w = .ok (.value (.agg #[.int .i64 x0, .int .i64 x1, .int .i64 x2, .int .i64 x3, .int .i64 x4])) w := by
  rw [Nat.zero_mul, Nat.add_zero] at hx
  simp [execOp, ho, hx, c0, c1, c2, c3, c4, go_sem]
theorem flw_by {w w' : World} {b off : Nat} {f : F5} (h : FlwAt w b (off + 0 * 5) f) (hb : w'.heap[b]? = w.heap[b]?) : w'.cell? ⟨b, off, none⟩ = some (.int .i64 f.1) ∧ w'.cell? ⟨b, off + 1, none⟩ = some (.int .i64 f.2.1) ∧ w'.cell? ⟨b, off + 2, none⟩ = some (.int .i64 f.2.2.1) ∧ w'.cell? ⟨b, off + 3, none⟩ = some (.int .i64 f.2.2.2.1) ∧ w'.cell? ⟨b, off + 4, none⟩ = some (.int .i64 f.2.2.2.2) := by
  rw [Nat.zero_mul, Nat.add_zero] at h
  obtain ⟨c0, c1, c2, c3, c4⟩ := h
  exact ⟨(World.cell?_of_block hb).trans c0, (World.cell?_of_block hb).trans c1, (World.cell?_of_block hb).trans c2, (World.cell?_of_block hb).trans c3, (World.cell?_of_block hb).trans c4⟩
theorem s_Snd_r {N R : Int} {fs : List F5} {f : F5} {v1 v2 : Int} {v3 : List F5} {u : F5} {vb : Bool} (hv : sendT (N, R, fs) f = ((v1, v2, v3), u, vb)) (a : Option Addr) (n cap : Nat) (w : World) (hxs : fs.length = n) (hn : n ≤ 1048576) (h : Flws w a fs) (ha : a = none → n = 0 ∧ cap = 0) :
    Calls Try.prog 13 #[.agg #[.int .i64 N, .int .i64 R, .slice a n cap], fvv f] w fun e w' => ∃ (a : Option Addr) (cap : Nat), e = .returned (.tuple #[.agg #[.int .i64 v1, .int .i64 v2, .slice a v3.length cap], fvv u, .bool vb]) ∧ w'.ownsRow w.heap.size 27 5 (.slice a v3.length cap) v3.length (fCells v3) ∧ w.grownBy w' none := by
  have := s_SendOut N R f a n cap fs w hxs hn h ha
  rw [hv] at this
  refine this.mono ?_
  rintro e w' ⟨a', c', h1, h2, h3, _⟩
  exact ⟨a', c', h1, h2, h3⟩
theorem c_Snd_r {N R : Int} {fs : List F5} {f : F5} {v1 v2 : Int} {v3 : List F5} {u : F5} {vb : Bool} (hv : sendT (N, R, fs) f = ((v1, v2, v3), u, vb)) (a : Option Addr) (n cap : Nat) (w : World) (hxs : fs.length = n) (hn : n ≤ 1048576) (h : Flws w a fs) (ha : a = none → n = 0 ∧ cap = 0) :
    Calls Try.prog 12 #[.agg #[.int .i64 N, .int .i64 R, .slice a n cap], fvv f] w fun e w' => ∃ (a : Option Addr) (cap : Nat), e = .returned (.tuple #[.agg #[.int .i64 v1, .int .i64 v2, .slice a v3.length cap], fvv u, .bool vb]) ∧ w'.ownsRow w.heap.size 27 5 (.slice a v3.length cap) v3.length (fCells v3) ∧ w.grownBy w' none := by
  have := c_SendOut N R f a n cap fs w hxs hn h ha
  rw [hv] at this
  refine this.mono ?_
  rintro e w' ⟨a', c', h1, h2, h3, _⟩
  exact ⟨a', c', h1, h2, h3⟩
theorem s_Cls_r {N R : Int} {fs : List F5} {f : F5} {v1 v2 : Int} {v3 : List F5} (hv : closeT (N, R, fs) f = (v1, v2, v3)) (a : Option Addr) (n cap : Nat) (w : World) (hxs : fs.length = n) (hn : n ≤ 1048576) (h : Flws w a fs) (ha : a = none → n = 0 ∧ cap = 0) :
    Calls Try.prog 17 #[.agg #[.int .i64 N, .int .i64 R, .slice a n cap], fvv f] w (RetOut w v1 v2 v3) := by
  have := s_CloseOut N R f a n cap fs w hxs hn h ha
  rw [hv] at this
  exact this
theorem OuC.far {g b q : Nat} {w wr : World} {N R : Int} {es : List F5} {a : Option Addr} {cap : Nat} (h : OuC D g b q w N R es a cap wr) (k : Nat) (hkb : k ≠ b ∧ w.heap.size < k) (hk : (Value.slice a es.length cap).ownBlock ≠ some k) (i : Nat) (u : Value) : OuC D g b q w N R es a cap (wr.setCell ⟨k, i, none⟩ u) :=
  ⟨h.bx.other (fun e => hkb.1 e.symm) _, row_set h.own _ _ hk, h.res.other (by simp; omega) _, h.lo, h.gw, h.rd.other (by have := h.rd.1; have := h.gw; omega) (by have := h.gw; omega) _ _, gb_set h.gr (b := k) (by omega) _ _⟩
set_option maxRecDepth 100000 in
set_option maxHeartbeats 16000000 in
theorem s_l20Outlet (g p : Nat) (nn : Int) (w : World) (h : Rd D w g p) (hp : p ≤ 9000) (n1 : -1000 ≤ nn) (n2 : nn ≤ 1000) :
    Calls Try.prog 47 #[.pointer (some ⟨g, 0, none⟩), .int .i64 nn] w (RetDO D w g p 8000) := by
  have hglt := h.lt
  have hD0 : D ≤ w.heap.size := by have := h.1; omega
  have HR := Lib.hid h
  clear h
  go_enter Try.func47, Try.ntmps47
  go_upto_region 1 with fail
  obtain ⟨w1, hw1, b1, sz1, x1⟩ := head1 w 25 [.int .i64 0, .int .i64 0, .slice none 0 0]
  have HR1 := Lib.hid (HR.out.keep (below_grown b1))
  have HG1 : Hid (w.grownBy w1 (some g)) := Lib.hid (grown_any (below_grown b1))
  have HRS1 := Lib.hid x1
  have hgw1 : g < w1.heap.size := by omega
  rw [← hw1]
  clear hw1 b1 x1 HR
  refine region_draw _ D g p 1 15 77 [10, 11, 12, 13, 14, 15, 16, 17, 18, 19, 20, 21, 22, 23, 5] [] [(10, fun v _ => v = .pointer (some ⟨g, 0, none⟩)), (11, fun v _ => ∃ x : Int, v = .int .i64 x ∧ 0 ≤ x ∧ x < 256), (12, fun v _ => v = .pointer (some ⟨g, 0, none⟩)), (13, fun v _ => ∃ x : Int, v = .int .i64 x ∧ 0 ≤ x ∧ x < 256), (14, L3 w1.heap.size), (15, fun v _ => v = .pointer (some ⟨g, 0, none⟩)), (16, fun v _ => ∃ j : Nat, v = .int .i64 j ∧ j < 3), (17, A3 w1.heap.size), (18, fun v _ => ∃ x : Int, v = .int .i64 x ∧ 0 ≤ x ∧ x ≤ 992), (19, fun v _ => v = .pointer (some ⟨g, 0, none⟩)), (20, fun v _ => ∃ j : Nat, v = .int .i64 j ∧ j < 5), (21, fun v _ => ∃ m : Nat, v = .int .i64 m ∧ 1 ≤ m ∧ m ≤ 5), (22, Z5 w1.heap.size), (23, O5 w1.heap.size), (5, BxO w1.heap.size)] rfl (by kernel_rfl) hgw1 (by omega) HR1.out (fun s hs => by cases hs) ?_ (fun s hs => by cases hs) rfl ?_ ?_
  · intro q hq
    simp only [List.mem_cons, List.not_mem_nil, or_false] at hq
    rcases hq with rfl | rfl | rfl | rfl | rfl | rfl | rfl | rfl | rfl | rfl | rfl | rfl | rfl | rfl | rfl
    · exact stb_pure _
    · exact stb_pure _
    · exact stb_pure _
    · exact stb_pure _
    · exact L3.stb hgw1
    · exact stb_pure _
    · exact stb_pure _
    · exact A3.stb hgw1
    · exact stb_pure _
    · exact stb_pure _
    · exact stb_pure _
    · exact stb_pure _
    · exact Z5.stb hgw1
    · exact O5.stb hgw1
    · exact BxO.stb hgw1
  · refine ⟨?_, ?_, ?_, ?_, ?_, ?_, ?_, ?_, ?_, ?_, ?_, ?_, ?_, ?_, ?_, trivial⟩
    · refine opR_val (d := 10) rfl rfl (fun fr9 wq hf hd hb => ⟨.pointer (some ⟨g, 0, none⟩), ?_, ?_⟩) _
      · exact (run_mv _ _ _ (.tmp 0) _ (hf 0 (by kernel_rfl))).1 rfl
      · exact rfl
    · refine opR_of (d := 11) rfl rfl (fun k9 fr9 wq hk hf hd hb hW => ?_) _
      obtain ⟨p', q1, q2⟩ := hW
      have e10 : fr9.tmps.getD 10 undef = .pointer (some ⟨g, 0, none⟩) := hd 10 (by kernel_rfl)
      have hv9 : (#[Operand.tmp 10, Operand.const (.int .i64 256)] : Array Operand).map fr9.eval = #[.pointer (some ⟨g, 0, none⟩), .int .i64 256] := by simp only [List.map_toArray, List.map_cons, List.map_nil, Act.eval, e10]
      refine op_call rfl (run_callL _ _ _ 48 _ _ _ rfl rfl hv9 (enters_of Try.func48 (by kernel_rfl) rfl)) ?_
      refine (c_pick g p' 256 wq q2 (by omega) (by omega) (by omega)).mono ?_
      rintro e w5 ⟨x, rfl, y1, y2, _, hr5, g5⟩
      exact ⟨_, rfl, _, rfl, ⟨x, rfl, y1, y2 (by omega)⟩, g5, p' + 1, by omega, hr5⟩
    · refine opR_val (d := 12) rfl rfl (fun fr9 wq hf hd hb => ⟨.pointer (some ⟨g, 0, none⟩), ?_, ?_⟩) _
      · exact (run_mv _ _ _ (.tmp 0) _ (hf 0 (by kernel_rfl))).1 rfl
      · exact rfl
    · refine opR_of (d := 13) rfl rfl (fun k9 fr9 wq hk hf hd hb hW => ?_) _
      obtain ⟨p', q1, q2⟩ := hW
      have e12 : fr9.tmps.getD 12 undef = .pointer (some ⟨g, 0, none⟩) := hd 12 (by kernel_rfl)
      have hv9 : (#[Operand.tmp 12, Operand.const (.int .i64 256)] : Array Operand).map fr9.eval = #[.pointer (some ⟨g, 0, none⟩), .int .i64 256] := by simp only [List.map_toArray, List.map_cons, List.map_nil, Act.eval, e12]
      refine op_call rfl (run_callL _ _ _ 48 _ _ _ rfl rfl hv9 (enters_of Try.func48 (by kernel_rfl) rfl)) ?_
      refine (c_pick g p' 256 wq q2 (by omega) (by omega) (by omega)).mono ?_
      rintro e w5 ⟨x, rfl, y1, y2, _, hr5, g5⟩
      exact ⟨_, rfl, _, rfl, ⟨x, rfl, y1, y2 (by omega)⟩, g5, p' + 1, by omega, hr5⟩
    · refine opR_of (d := 14) rfl rfl (fun k9 fr9 wq hk hf hd hb hW => ?_) _
      obtain ⟨p', q1, q2⟩ := hW
      obtain ⟨x, e13, y1, y2⟩ : ∃ x : Int, fr9.tmps.getD 13 undef = .int .i64 x ∧ 0 ≤ x ∧ x < 256 := hd 13 (by kernel_rfl)
      exact wp_val2 rfl (run_bs3i _ _ _ (.tmp 13) x rfl (fun _ => rfl) e13) ⟨_, rfl, ⟨wq.heap.size, x, rfl, hb.size, y1, y2, Box.new _ _ _⟩, grownBy_alloc _ _ _, p', by omega, q2.keep (grownBy_alloc _ _ _)⟩
    · refine opR_val (d := 15) rfl rfl (fun fr9 wq hf hd hb => ⟨.pointer (some ⟨g, 0, none⟩), ?_, ?_⟩) _
      · exact (run_mv _ _ _ (.tmp 0) _ (hf 0 (by kernel_rfl))).1 rfl
      · exact rfl
    · refine opR_of (d := 16) rfl rfl (fun k9 fr9 wq hk hf hd hb hW => ?_) _
      obtain ⟨p', q1, q2⟩ := hW
      have e15 : fr9.tmps.getD 15 undef = .pointer (some ⟨g, 0, none⟩) := hd 15 (by kernel_rfl)
      have hv9 : (#[Operand.tmp 15, Operand.const (.int .i64 3)] : Array Operand).map fr9.eval = #[.pointer (some ⟨g, 0, none⟩), .int .i64 3] := by simp only [List.map_toArray, List.map_cons, List.map_nil, Act.eval, e15]
      refine op_call rfl (run_callL _ _ _ 48 _ _ _ rfl rfl hv9 (enters_of Try.func48 (by kernel_rfl) rfl)) ?_
      refine (c_pick g p' 3 wq q2 (by omega) (by omega) (by omega)).mono ?_
      rintro e w5 ⟨x, rfl, y1, y2, _, hr5, g5⟩
      obtain ⟨j, rfl⟩ := Int.eq_ofNat_of_zero_le y1
      exact ⟨_, rfl, _, rfl, ⟨j, rfl, by have := y2 (by omega); omega⟩, g5, p' + 1, by omega, hr5⟩
    · refine opR_val (d := 17) rfl rfl (fun fr9 wq hf hd hb => ?_) _
      obtain ⟨k, x, e14, l1, l2, l3, l4⟩ : L3 w1.heap.size (fr9.tmps.getD 14 undef) wq := hd 14 (by kernel_rfl)
      obtain ⟨j, e16, hj⟩ : ∃ j : Nat, fr9.tmps.getD 16 undef = .int .i64 j ∧ j < 3 := hd 16 (by kernel_rfl)
      exact ⟨_, run_ix3 _ _ _ (.tmp 14) (.tmp 16) k j hj rfl e14 e16, k, j, x, rfl, hj, l1, l2, l3, l4⟩
    · refine opR_val (d := 18) rfl rfl (fun fr9 wq hf hd hb => ?_) _
      obtain ⟨k, j, x, e17, hj, l1, l2, l3, l4⟩ : A3 w1.heap.size (fr9.tmps.getD 17 undef) wq := hd 17 (by kernel_rfl)
      have h3 : j = 0 ∨ j = 1 ∨ j = 2 := by omega
      rcases h3 with rfl | rfl | rfl
      · exact ⟨_, run_ld _ _ _ (.tmp 17) k 0 500 rfl e17 (l4.cell 0), 500, rfl, by omega, by omega⟩
      · exact ⟨_, run_ld _ _ _ (.tmp 17) k 1 x rfl e17 (l4.cell 1), x, rfl, by omega, by omega⟩
      · exact ⟨_, run_ld _ _ _ (.tmp 17) k 2 992 rfl e17 (l4.cell 2), 992, rfl, by omega, by omega⟩
    · refine opR_val (d := 19) rfl rfl (fun fr9 wq hf hd hb => ⟨.pointer (some ⟨g, 0, none⟩), ?_, ?_⟩) _
      · exact (run_mv _ _ _ (.tmp 0) _ (hf 0 (by kernel_rfl))).1 rfl
      · exact rfl
    · refine opR_of (d := 20) rfl rfl (fun k9 fr9 wq hk hf hd hb hW => ?_) _
      obtain ⟨p', q1, q2⟩ := hW
      have e19 : fr9.tmps.getD 19 undef = .pointer (some ⟨g, 0, none⟩) := hd 19 (by kernel_rfl)
      have hv9 : (#[Operand.tmp 19, Operand.const (.int .i64 5)] : Array Operand).map fr9.eval = #[.pointer (some ⟨g, 0, none⟩), .int .i64 5] := by simp only [List.map_toArray, List.map_cons, List.map_nil, Act.eval, e19]
      refine op_call rfl (run_callL _ _ _ 48 _ _ _ rfl rfl hv9 (enters_of Try.func48 (by kernel_rfl) rfl)) ?_
      refine (c_pick g p' 5 wq q2 (by omega) (by omega) (by omega)).mono ?_
      rintro e w5 ⟨x, rfl, y1, y2, _, hr5, g5⟩
      obtain ⟨j, rfl⟩ := Int.eq_ofNat_of_zero_le y1
      exact ⟨_, rfl, _, rfl, ⟨j, rfl, by have := y2 (by omega); omega⟩, g5, p' + 1, by omega, hr5⟩
    · refine opR_val (d := 21) rfl rfl (fun fr9 wq hf hd hb => ?_) _
      obtain ⟨j, e20, hj⟩ : ∃ j : Nat, fr9.tmps.getD 20 undef = .int .i64 j ∧ j < 5 := hd 20 (by kernel_rfl)
      exact ⟨_, run_addc _ _ _ (.tmp 20) j _ rfl (fun _ => rfl) e20 (by omega), j + 1, rfl, by omega, by omega⟩
    · refine opR_of (d := 22) rfl rfl (fun k9 fr9 wq hk hf hd hb hW => ?_) _
      obtain ⟨p', q1, q2⟩ := hW
      obtain ⟨m, e21, m1, m2⟩ : ∃ m : Nat, fr9.tmps.getD 21 undef = .int .i64 m ∧ 1 ≤ m ∧ m ≤ 5 := hd 21 (by kernel_rfl)
      obtain ⟨w', hr', o', g'⟩ := run_mkF { dst := some 22, op := Op.makeSlice 23 (.tmp 21) (.tmp 21), type := _, pos := _, after := _, guard := none } fr9.eval wq (.tmp 21) (.tmp 21) m m1 (by omega) rfl e21 e21
      exact wp_val2 rfl hr' ⟨_, rfl, ⟨m, wq.heap.size, rfl, m1, m2, row_wider o' hb.size⟩, grown_any g', p', by omega, q2.keep g'⟩
    · refine opR_val (d := 23) rfl rfl (fun fr9 wq hf hd hb => ?_) _
      obtain ⟨N, e11, n1, n2⟩ : ∃ x : Int, fr9.tmps.getD 11 undef = .int .i64 x ∧ 0 ≤ x ∧ x < 256 := hd 11 (by kernel_rfl)
      obtain ⟨R, e18, r1, r2⟩ : ∃ x : Int, fr9.tmps.getD 18 undef = .int .i64 x ∧ 0 ≤ x ∧ x ≤ 992 := hd 18 (by kernel_rfl)
      obtain ⟨m, k, e22, m1, m2, o⟩ : Z5 w1.heap.size (fr9.tmps.getD 22 undef) wq := hd 22 (by kernel_rfl)
      exact ⟨_, run_bO _ _ _ (.tmp 11) (.tmp 18) (.tmp 22) N R _ rfl e11 e18 e22 _ _ _ rfl, N, R, m, k, rfl, inB_true.2 ⟨n1, by omega⟩, r1, r2, m1, m2, o⟩
    · refine opR_of (d := 5) rfl rfl (fun k9 fr9 wq hk hf hd hb hW => ?_) _
      obtain ⟨p', q1, q2⟩ := hW
      exact wp_val2 rfl (run_alOi _ _ _ rfl) ⟨_, rfl, ⟨wq.heap.size, rfl, hb.size, Box.new _ _ _⟩, grownBy_alloc _ _ _, p', by omega, q2.keep (grownBy_alloc _ _ _)⟩
  · intro fq wq hf hgr ⟨p9, hp9, hr9⟩
    obtain ⟨N, R, m, k, e23, hN, hR0, hR1, hm1, hm2, ho⟩ : O5 w1.heap.size (fq 23) wq := hf 23 (by decide)
    obtain ⟨b, e5, hkb, hbx⟩ : BxO w1.heap.size (fq 5) wq := hf 5 (by decide)
    obtain ⟨v10, e10⟩ : ∃ v, fq 10 = v := ⟨_, rfl⟩
    simp only [List.drop_succ_cons, List.drop_zero, putL, Act.put, List.setIfInBounds_toArray, List.set_cons_succ, List.set_cons_zero, e23, e5]
    generalize fq 10 = f10 at *
    generalize fq 11 = f11 at *
    generalize fq 12 = f12 at *
    generalize fq 13 = f13 at *
    generalize fq 14 = f14 at *
    generalize fq 15 = f15 at *
    generalize fq 16 = f16 at *
    generalize fq 17 = f17 at *
    generalize fq 18 = f18 at *
    generalize fq 19 = f19 at *
    generalize fq 20 = f20 at *
    generalize fq 21 = f21 at *
    generalize fq 22 = f22 at *
    clear hf e23 e5 e10
    have hz1 : w1.heap.size ≤ wq.heap.size := hgr.size
    have HO := Lib.hid ho
    have HBX := Lib.hid hbx
    have HRS := Lib.hid (HRS1.out.by hgr (by omega))
    have HGR := Lib.hid (grownBy_tr HG1.out hgr)
    have HRD := Lib.hid hr9
    clear ho hbx hgr hr9
    obtain ⟨c0, c1, c2, cf⟩ := HBX.out.three
    go_upto_region 2 with fail
    obtain ⟨w4, hw4⟩ : ∃ W4, W4 = (((wq.setCell ⟨b, 0, none⟩ (.int .i64 N)).setCell ⟨b, 1, none⟩ (.int .i64 R)).setCell ⟨b, 2, none⟩ (.slice (some ⟨k, 0, none⟩) m m)) := ⟨_, rfl⟩
    have hlr : (List.replicate m z5).length = m := List.length_replicate ..
    have hDw : D ≤ w.heap.size := hD0
    have HC4 : Hid (OuC D g b p9 w N R (List.replicate m z5) (some ⟨k, 0, none⟩) m w4) := Lib.hid (by
      have hne := row_ne HO.out HBX.out (by decide)
      rw [hw4]
      refine ⟨?_, ?_, ((HRS.out.other (by simp; omega) _).other (by simp; omega) _).other (by simp; omega) _, by omega, hglt, ((HRD.out.other (by omega) (by omega) _ _).other (by omega) (by omega) _ _).other (by omega) (by omega) _ _, gb_set (gb_set (gb_set HGR.out (b := b) (by omega) _ _) (b := b) (by omega) _ _) (b := b) (by omega) _ _⟩
      · rw [hlr]; exact ((HBX.out.set 0 _).set 1 _).set 2 _
      · rw [hlr]; exact row_wider (row_set (row_set (row_set HO.out _ _ hne) _ _ hne) _ _ hne) (by omega))
    have HV4 : Hid (ov N R (List.replicate m z5) = true) := Lib.hid (ov_zeros hN hm1 (by omega) hR0 (by omega))
    obtain ⟨fs, hfs⟩ : ∃ fs, List.replicate m z5 = fs := ⟨_, rfl⟩
    rw [hfs] at HC4 HV4 hlr
    have hl5 : 1 ≤ fs.length ∧ fs.length ≤ 5 := by omega
    rw [← hw4]
    clear hw4 HO HBX HRS HGR HRD hfs c0 c1 c2 cf HRS1 HG1
    go_wp2_with fail
    refine (c_pick g p9 7 _ HC4.out.rd (by omega) (by omega) (by omega)).mono ?_
    rintro e w5 ⟨jj, rfl, u1, u2, _, hr5, hg5⟩
    have u3 := u2 (by omega)
    have HC5 := Lib.hid (HC4.out.by hg5 hr5)
    clear hr5 hg5 HC4 u2
    obtain ⟨j0, rfl⟩ := Int.eq_ofNat_of_zero_le u1
    go_wp2
    go_loopw [6] (fun i wr => ∃ (j q : Nat) (N R : Int) (fs : List F5) (a : Option Addr) (cap : Nat), i = .int .i64 j ∧ j ≤ 6 ∧ q + 651 * j ≤ p + 5000 ∧ 1 ≤ fs.length ∧ fs.length ≤ 5 ∧ ov N R fs = true ∧ OuC D g b q w N R fs a cap wr) (fun i _ => (intOf i).toNat)
    case atStart => exact ⟨j0, p9 + 1, N, R, fs, some ⟨k, 0, none⟩, m, rfl, by omega, by omega, hl5.1, hl5.2, HV4.out, HC5.out⟩
    case round =>
      obtain ⟨j, q, N, R, fs, a, cap, rfl, hj, hq, hl1, hl2, hV, hC⟩ := hrel
      have HC := Lib.hid hC
      have HV := Lib.hid hV
      clear hC hV
      by_cases hlt : 0 < j
      · have hgw7 : g < wr.heap.size := HC.out.rd.lt
        have hDw7 : D ≤ wr.heap.size := by have := HC.out.rd.1; omega
        have hlo := HC.out.lo
        have hgw := HC.out.gw
        have hbw := HC.out.bx.lt
        go_upto_region 5 with fail
        refine region_drawP _ D g q 60 10 77 [6, 7] [31, 32, 33, 34, 30, 35, 36, 37, 7, 8] [] [(31, fun v _ => v = .agg #[.int .i64 N, .int .i64 R, .slice a fs.length cap]), (32, fun v _ => v = .pointer (some ⟨g, 0, none⟩)), (33, fun v _ => FlowQ v), (34, VS wr.heap.size fs.length), (30, VS wr.heap.size fs.length), (35, VO wr.heap.size fs.length), (36, fun v _ => ∃ f : F5, v = fvv f), (37, fun v _ => BoolP v), (7, BxO wr.heap.size), (8, BxF wr.heap.size)] rfl (by kernel_rfl) hgw7 hDw7 HC.out.rd (fun s hs => by cases hs) ?_ (fun s hs => by cases hs) rfl (fun _ _ _ _ _ h => h) ?_ ?_ ?_
        · intro q hq
          simp only [List.mem_cons, List.not_mem_nil, or_false] at hq
          rcases hq with rfl | rfl | rfl | rfl | rfl | rfl | rfl | rfl | rfl | rfl
          · exact stb_pure _
          · exact stb_pure _
          · exact stb_pure _
          · exact VS.stb hgw7
          · exact VS.stb hgw7
          · exact VO.stb hgw7
          · exact stb_pure _
          · exact stb_pure _
          · exact BxO.stb hgw7
          · exact BxF.stb hgw7
        · intro i9 o9 hi9 ho9 fr9 wq hd
          simp only [List.mem_cons, List.not_mem_nil, or_false] at hi9
          rcases hi9 with rfl | rfl
          all_goals
            injection ho9 with ho9
            subst ho9
            obtain ⟨u, f, bb, e, hT⟩ : VS wr.heap.size fs.length (fr9.tmps.getD 30 undef) wq := hd 30 (by kernel_rfl)
          · exact ⟨36, _, rfl, .inl ⟨rfl, fun w9 => run_ext _ _ w9 (.tmp 30) 1 _ _ rfl e rfl⟩, f, rfl⟩
          · exact ⟨37, _, rfl, .inl ⟨rfl, fun w9 => run_ext _ _ w9 (.tmp 30) 2 _ _ rfl e rfl⟩, bb, rfl⟩
        · refine ⟨?_, ?_, ?_, ?_, ?_, ?_, ?_, ?_, ?_, ?_, trivial⟩
          · refine opR_val (d := 31) rfl rfl (fun fr9 wq hf hd hb => ?_) _
            exact ⟨.agg #[.int .i64 N, .int .i64 R, .slice a fs.length cap], run_ldOi _ _ _ (.tmp 5) b _ _ _ rfl (hf 5 (by kernel_rfl)) (HC.out.bx.by hb (by omega)), rfl⟩
          · refine opR_val (d := 32) rfl rfl (fun fr9 wq hf hd hb => ⟨.pointer (some ⟨g, 0, none⟩), ?_, ?_⟩) _
            · exact (run_mv _ _ _ (.tmp 0) _ (hf 0 (by kernel_rfl))).1 rfl
            · exact rfl
          · refine opR_of (d := 33) rfl rfl (fun k9 fr9 wq hk hf hd hb hW => ?_) _
            obtain ⟨p', q1, q2⟩ := hW
            have e32 : fr9.tmps.getD 32 undef = .pointer (some ⟨g, 0, none⟩) := hd 32 (by kernel_rfl)
            have hv9 : (#[Operand.tmp 32, Operand.const (.int .i64 0)] : Array Operand).map fr9.eval = #[.pointer (some ⟨g, 0, none⟩), .int .i64 0] := by simp only [List.map_toArray, List.map_cons, List.map_nil, Act.eval, e32]
            refine op_call rfl (run_callL _ _ _ 49 _ _ _ rfl rfl hv9 (enters_of Try.func49 (by kernel_rfl) rfl)) ?_
            refine (s_l20Flow0 g p' wq q2 (by omega)).mono ?_
            rintro e w5 ⟨x0, x1, x2, x3, x4, rfl, hfv, ⟨p5, hp5, hr5⟩, g5⟩
            exact ⟨_, rfl, _, rfl, ⟨x0, x1, x2, x3, x4, rfl, hfv⟩, g5, p5, by omega, hr5⟩
          · refine opR_of (d := 34) rfl rfl (fun k9 fr9 wq hk hf hd hb hW => ?_) _
            obtain ⟨p', q1, q2⟩ := hW
            have e31 : fr9.tmps.getD 31 undef = .agg #[.int .i64 N, .int .i64 R, .slice a fs.length cap] := hd 31 (by kernel_rfl)
            obtain ⟨x0, x1, x2, x3, x4, e33, hfv⟩ : FlowQ (fr9.tmps.getD 33 undef) := hd 33 (by kernel_rfl)
            obtain ⟨⟨⟨v1, v2, v3⟩, u, ok⟩, hsv⟩ : ∃ s, sendT (N, R, fs) (x0, x1, x2, x3, x4) = s := ⟨_, rfl⟩
            have hown := row_kept HC.out.own hb (fun k hk e => by have := (HC.out.own.lt k hk).1; injection e; omega)
            have hv9 : (#[Operand.tmp 31, Operand.tmp 33] : Array Operand).map fr9.eval = #[.agg #[.int .i64 N, .int .i64 R, .slice a fs.length cap], fvv (x0, x1, x2, x3, x4)] := by simp only [List.map_toArray, List.map_cons, List.map_nil, Act.eval, e31, e33, fvv]
            refine op_call rfl (run_callL _ _ _ 13 _ _ _ rfl rfl hv9 (enters_of Try.func13 (by kernel_rfl) rfl)) ?_
            refine (s_Snd_r hsv a fs.length cap wq rfl (by omega) (FlwRow.flws hown) (own_none hown)).mono ?_
            rintro e w5 ⟨a5, c5, rfl, o5, g5⟩
            obtain ⟨s1, s2, s3⟩ := send_any HV.out hfv hsv
            exact ⟨_, rfl, _, rfl, ⟨_, u, ok, rfl, v1, v2, v3, a5, c5, rfl, s1, s2, s3, row_wider o5 hb.size⟩, grown_any g5, p', by omega, q2.keep g5⟩
          · refine opR_of (d := 30) rfl rfl (fun k9 fr9 wq hk hf hd hb hW => ?_) _
            obtain ⟨p', q1, q2⟩ := hW
            obtain ⟨u, f, bb, e, hT⟩ : VS wr.heap.size fs.length (fr9.tmps.getD 34 undef) wq := hd 34 (by kernel_rfl)
            exact wp_val2 rfl ((run_mv _ _ _ (.tmp 34) _ e).1 rfl) ⟨_, rfl, ⟨u, f, bb, rfl, hT⟩, World.grownBy.refl _ _, p', by omega, q2⟩
          · refine opR_of (d := 35) rfl rfl (fun k9 fr9 wq hk hf hd hb hW => ?_) _
            obtain ⟨p', q1, q2⟩ := hW
            obtain ⟨u, f, bb, e, hT⟩ : VS wr.heap.size fs.length (fr9.tmps.getD 30 undef) wq := hd 30 (by kernel_rfl)
            exact wp_val2 rfl (run_extR _ _ _ (.tmp 30) 0 _ _ rfl e rfl) ⟨_, rfl, hT, World.grownBy.refl _ _, p', by omega, q2⟩
          · refine opR_of (d := 36) rfl rfl (fun k9 fr9 wq hk hf hd hb hW => ?_) _
            obtain ⟨p', q1, q2⟩ := hW
            obtain ⟨u, f, bb, e, hT⟩ : VS wr.heap.size fs.length (fr9.tmps.getD 30 undef) wq := hd 30 (by kernel_rfl)
            exact wp_val2 rfl (run_extR _ _ _ (.tmp 30) 1 _ _ rfl e rfl) ⟨_, rfl, ⟨f, rfl⟩, World.grownBy.refl _ _, p', by omega, q2⟩
          · refine opR_of (d := 37) rfl rfl (fun k9 fr9 wq hk hf hd hb hW => ?_) _
            obtain ⟨p', q1, q2⟩ := hW
            obtain ⟨u, f, bb, e, hT⟩ : VS wr.heap.size fs.length (fr9.tmps.getD 30 undef) wq := hd 30 (by kernel_rfl)
            exact wp_val2 rfl (run_extR _ _ _ (.tmp 30) 2 _ _ rfl e rfl) ⟨_, rfl, ⟨bb, rfl⟩, World.grownBy.refl _ _, p', by omega, q2⟩
          · refine opR_of (d := 7) rfl rfl (fun k9 fr9 wq hk hf hd hb hW => ?_) _
            obtain ⟨p', q1, q2⟩ := hW
            exact wp_val2 rfl (run_alOi _ _ _ rfl) ⟨_, rfl, ⟨wq.heap.size, rfl, hb.size, Box.new _ _ _⟩, grownBy_alloc _ _ _, p', by omega, q2.keep (grownBy_alloc _ _ _)⟩
          · refine opR_of (d := 8) rfl rfl (fun k9 fr9 wq hk hf hd hb hW => ?_) _
            obtain ⟨p', q1, q2⟩ := hW
            exact wp_val2 rfl (run_alFi _ _ _ rfl) ⟨_, rfl, ⟨wq.heap.size, rfl, hb.size, Box.new _ _ _⟩, grownBy_alloc _ _ _, p', by omega, q2.keep (grownBy_alloc _ _ _)⟩
        · intro fq wq hf hgr ⟨p9, hp9, hr9⟩
          obtain ⟨N', R', fs', a', c', e35, hov', hlen', hnz', ho'⟩ : VO wr.heap.size fs.length (fq 35) wq := hf 35 (by decide)
          obtain ⟨⟨u0, u1, u2, u3, u4⟩, e36⟩ : ∃ f : F5, fq 36 = fvv f := hf 36 (by decide)
          obtain ⟨bb, e37⟩ : BoolP (fq 37) := hf 37 (by decide)
          obtain ⟨k7, e7, hk7, hb7⟩ : BxO wr.heap.size (fq 7) wq := hf 7 (by decide)
          obtain ⟨k8, e8, hk8, hb8⟩ : BxF wr.heap.size (fq 8) wq := hf 8 (by decide)
          unfold fvv at e36
          simp only [List.drop_succ_cons, List.drop_zero, putL, Act.put, List.setIfInBounds_toArray, List.set_cons_succ, List.set_cons_zero, e35, e36, e37, e7, e8]
          generalize fq 31 = f31 at *
          generalize fq 32 = f32 at *
          generalize fq 33 = f33 at *
          generalize fq 34 = f34 at *
          generalize fq 30 = f30 at *
          clear hf e35 e36 e37 e7 e8
          have HC7 := Lib.hid (HC.out.by hgr hr9)
          have HB7 := Lib.hid hb7
          have HB8 := Lib.hid hb8
          have hwr : w.heap.size ≤ wr.heap.size := HC.out.gr.size
          have HO' := Lib.hid (row_wider ho' hwr)
          have HV' := Lib.hid hov'
          have hnk7 : (Value.slice a fs.length cap).ownBlock ≠ some k7 := fun e => by have := (HC.out.own.lt k7 e).2; omega
          have hnk8 : (Value.slice a fs.length cap).ownBlock ≠ some k8 := fun e => by have := (HC.out.own.lt k8 e).2; omega
          have hne87 : k8 ≠ k7 := by
            intro e; subst e
            exact absurd (box_type hb7 hb8) (by decide)
          have hne78 : ¬ k7 = k8 := fun e => hne87 e.symm
          have hne7 := row_ne HO'.out HB7.out (by decide)
          have hne8 := row_ne5 HO'.out HB8.out hnz' (by omega)
          have hl1' : 1 ≤ fs'.length := by omega
          have hl2' : fs'.length ≤ 5 := by omega
          clear hgr hr9 hb7 hb8 ho' hov' HC hlen'
          obtain ⟨c0, c1, c2, cf⟩ := HB7.out.three
          obtain ⟨d0, d1, d2, d3, d4, df⟩ := HB8.out.five
          have hp9' : p9 ≤ q + 650 := by omega
          have hk7b : ¬ k7 = b := by omega
          have hk8b : ¬ k8 = b := by omega
          go_upto_region 6 with fail
          obtain ⟨W8, hW8⟩ : ∃ W8, W8 = (((((((wq.setCell ⟨k7, 0, none⟩ (.int .i64 N')).setCell ⟨k7, 1, none⟩ (.int .i64 R')).setCell ⟨k7, 2, none⟩ (.slice a' fs'.length c')).setCell ⟨k8, 0, none⟩ (.int .i64 u0)).setCell ⟨k8, 1, none⟩ (.int .i64 u1)).setCell ⟨k8, 2, none⟩ (.int .i64 u2)).setCell ⟨k8, 3, none⟩ (.int .i64 u3)).setCell ⟨k8, 4, none⟩ (.int .i64 u4) := ⟨_, rfl⟩
          have HC8 : Hid (OuC D g b p9 w N R fs a cap W8) := Lib.hid (by
            rw [hW8]
            exact (((((((HC7.out.far k7 ⟨by omega, by omega⟩ hnk7 _ _).far k7 ⟨by omega, by omega⟩ hnk7 _ _).far k7 ⟨by omega, by omega⟩ hnk7 _ _).far k8 ⟨by omega, by omega⟩ hnk8 _ _).far k8 ⟨by omega, by omega⟩ hnk8 _ _).far k8 ⟨by omega, by omega⟩ hnk8 _ _).far k8 ⟨by omega, by omega⟩ hnk8 _ _).far k8 ⟨by omega, by omega⟩ hnk8 _ _)
          have HO8 : Hid (W8.ownsRow w.heap.size 27 5 (.slice a' fs'.length c') fs'.length (fCells fs')) := Lib.hid (by
            rw [hW8]
            exact row_set (row_set (row_set (row_set (row_set (row_set (row_set (row_set HO'.out _ _ hne7) _ _ hne7) _ _ hne7) _ _ hne8) _ _ hne8) _ _ hne8) _ _ hne8) _ _ hne8)
          have HB78 : Hid (Box W8 k7 25 [.int .i64 N', .int .i64 R', .slice a' fs'.length c']) := Lib.hid (by
            rw [hW8]
            exact ((((((((HB7.out.set 0 _).set 1 _).set 2 _).other hne78 _).other hne78 _).other hne78 _).other hne78 _).other hne78 _))
          rw [← hW8]
          clear hW8 HC7 HB7 HB8 HO' c0 c1 c2 cf d0 d1 d2 d3 d4 df hne7 hne8
          obtain ⟨e0, e1, e2, ef⟩ := HB78.out.three
          obtain ⟨b0, b1, b2, bf⟩ := HC8.out.bx.three
          cases bb
          · go_wp2
            go_roundw
            case rel => exact ⟨j - 1, p9, N, R, fs, a, cap, by go_num, by omega, by omega, hl1, hl2, HV.out, HC8.out⟩
            case measure => simp [intOf]; omega
          · go_upto_region 4 with fail
            obtain ⟨W9, hW9⟩ : ∃ W9, W9 = ((W8.setCell ⟨b, 0, none⟩ (.int .i64 N')).setCell ⟨b, 1, none⟩ (.int .i64 R')).setCell ⟨b, 2, none⟩ (.slice a' fs'.length c') := ⟨_, rfl⟩
            have HC9 : Hid (OuC D g b p9 w N' R' fs' a' c' W9) := Lib.hid (by rw [hW9]; exact HC8.out.turn HO8.out)
            rw [← hW9]
            clear hW9 HC8 HO8 HB78 e0 e1 e2 ef b0 b1 b2 bf
            go_wp2
            go_roundw
            case rel => exact ⟨j - 1, p9, N', R', fs', a', c', by go_num, by omega, by omega, by omega, by omega, HV'.out, HC9.out⟩
            case measure => simp [intOf]; omega
      · obtain rfl : j = 0 := by omega
        go_wp2_with fail
        refine (c_pick g q 3 _ HC.out.rd (by omega) (by omega) (by omega)).mono ?_
        rintro e w7 ⟨x, rfl, y1, y2, _, hr7, hg7⟩
        have y3 := y2 (by omega)
        have HC7 := Lib.hid (HC.out.by hg7 hr7)
        have HV7 := HV
        clear hr7 hg7 y2 HC HV
        by_cases hx0 : x = 0
        · subst hx0
          have hgw7 : g < w7.heap.size := HC7.out.rd.lt
          have hDw7 : D ≤ w7.heap.size := by have := HC7.out.rd.1; omega
          have hlo := HC7.out.lo
          have hgw := HC7.out.gw
          obtain ⟨rb, ro, rfl, hrb, hfl⟩ := (FlwRow.flws HC7.out.own).at rfl (k := 0) (by omega)
          have hrb2 := (HC7.out.own.lt rb rfl).1
          have hfc : ∀ wq, w7.grownBy wq (some g) → _ := fun wq hb => flw_by (hfl 0 (by omega)) (hb.block rb hrb (by simp; omega))
          clear y1 y3
          go_upto_region 9 with fail
          refine region_draw _ D g (q + 1) 1 6 77 [43, 44, 45, 46, 47, 48] [] [(43, fun v _ => v = .agg #[.int .i64 N, .int .i64 R, .slice (some ⟨rb, ro, none⟩) fs.length cap]), (44, fun v _ => v = .pointer (some ⟨b, 2, none⟩)), (45, fun v _ => v = .slice (some ⟨rb, ro, none⟩) fs.length cap), (46, fun v _ => v = .pointer (some ⟨rb, ro + 0 * 5, none⟩)), (47, fun v _ => FlowP v), (48, CO w7.heap.size fs.length)] rfl (by kernel_rfl) hgw7 hDw7 HC7.out.rd (fun s hs => by cases hs) ?_ (fun s hs => by cases hs) rfl ?_ ?_
          · intro q hq
            simp only [List.mem_cons, List.not_mem_nil, or_false] at hq
            rcases hq with rfl | rfl | rfl | rfl | rfl | rfl
            · exact stb_pure _
            · exact stb_pure _
            · exact stb_pure _
            · exact stb_pure _
            · exact stb_pure _
            · exact CO.stb hgw7
          · refine ⟨?_, ?_, ?_, ?_, ?_, ?_, trivial⟩
            · refine opR_val (d := 43) rfl rfl (fun fr9 wq hf hd hb => ?_) _
              exact ⟨.agg #[.int .i64 N, .int .i64 R, .slice (some ⟨rb, ro, none⟩) fs.length cap], run_ldOi _ _ _ (.tmp 5) b _ _ _ rfl (hf 5 (by kernel_rfl)) (HC7.out.bx.by hb (by omega)), rfl⟩
            · refine opR_val (d := 44) rfl rfl (fun fr9 wq hf hd hb => ?_) _
              exact ⟨.pointer (some ⟨b, 2, none⟩), run_faO _ _ _ (.tmp 5) b rfl (hf 5 (by kernel_rfl)), rfl⟩
            · refine opR_val (d := 45) rfl rfl (fun fr9 wq hf hd hb => ?_) _
              exact ⟨.slice (some ⟨rb, ro, none⟩) fs.length cap, run_ldOs _ _ _ (.tmp 44) b 2 _ rfl (hd 44 (by kernel_rfl)) ((HC7.out.bx.by hb (by omega)).cell 2), rfl⟩
            · refine opR_val (d := 46) rfl rfl (fun fr9 wq hf hd hb => ?_) _
              exact ⟨.pointer (some ⟨rb, ro + 0 * 5, none⟩), run_ixF _ _ _ (.tmp 45) (.const (.int .i64 0)) rb ro fs.length cap 0 (by omega) rfl (hd 45 (by kernel_rfl)) rfl, rfl⟩
            · refine opR_val (d := 47) rfl rfl (fun fr9 wq hf hd hb => ?_) _
              have e46 : fr9.tmps.getD 46 undef = .pointer (some ⟨rb, ro + 0 * 5, none⟩) := hd 46 (by kernel_rfl)
              obtain ⟨f0, f1, f2, f3, f4⟩ := hfc wq hb
              exact ⟨_, run_ld5c _ _ _ (.tmp 46) rb ro _ _ _ _ _ rfl e46 f0 f1 f2 f3 f4, _, _, _, _, _, rfl⟩
            · refine opR_of (d := 48) rfl rfl (fun k9 fr9 wq hk hf hd hb hW => ?_) _
              obtain ⟨p', q1, q2⟩ := hW
              have e43 : fr9.tmps.getD 43 undef = .agg #[.int .i64 N, .int .i64 R, .slice (some ⟨rb, ro, none⟩) fs.length cap] := hd 43 (by kernel_rfl)
              obtain ⟨x0, x1, x2, x3, x4, e47⟩ : FlowP (fr9.tmps.getD 47 undef) := hd 47 (by kernel_rfl)
              obtain ⟨⟨v1, v2, v3⟩, hsv⟩ : ∃ s, closeT (N, R, fs) (x0, x1, x2, x3, x4) = s := ⟨_, rfl⟩
              have hown := row_kept HC7.out.own hb (fun k hk e => by have := (HC7.out.own.lt k hk).1; injection e; omega)
              have hv9 : (#[Operand.tmp 43, Operand.tmp 47] : Array Operand).map fr9.eval = #[.agg #[.int .i64 N, .int .i64 R, .slice (some ⟨rb, ro, none⟩) fs.length cap], fvv (x0, x1, x2, x3, x4)] := by simp only [List.map_toArray, List.map_cons, List.map_nil, Act.eval, e43, e47, fvv]
              refine op_call rfl (run_callL _ _ _ 17 _ _ _ rfl rfl hv9 (enters_of Try.func17 (by kernel_rfl) rfl)) ?_
              refine (s_Cls_r hsv (some ⟨rb, ro, none⟩) fs.length cap wq rfl (by omega) (FlwRow.flws hown) (own_none hown)).mono ?_
              rintro e w5 ⟨a5, c5, rfl, o5, g5⟩
              obtain ⟨s1, s2⟩ := close_valid HV7.out hsv
              exact ⟨_, rfl, _, rfl, ⟨v1, v2, v3, a5, c5, rfl, s1, s2, row_wider o5 hb.size⟩, grown_any g5, p', by omega, q2.keep g5⟩
          · intro fq wq hf hgr ⟨p9, hp9, hr9⟩
            obtain ⟨N', R', fs', a', c', e48, hov', hlen', ho'⟩ : CO w7.heap.size fs.length (fq 48) wq := hf 48 (by decide)
            simp only [List.drop_succ_cons, List.drop_zero, putL, Act.put, List.setIfInBounds_toArray, List.set_cons_succ, List.set_cons_zero, e48]
            generalize fq 43 = f43 at *
            generalize fq 44 = f44 at *
            generalize fq 45 = f45 at *
            generalize fq 46 = f46 at *
            generalize fq 47 = f47 at *
            clear hf e48 hfc
            have HC8 := Lib.hid (HC7.out.by hgr hr9)
            have hwr : w.heap.size ≤ w7.heap.size := HC7.out.gr.size
            have HO' := Lib.hid (row_wider ho' hwr)
            have hm1 : 1 ≤ fs'.length := by omega
            have hm2 : fs'.length ≤ 5 := by omega
            clear hgr hr9 ho' HC7 hlen'
            obtain ⟨b0, b1, b2, bf⟩ := HC8.out.bx.three
            go_upto_region 10 with fail
            obtain ⟨W9, hW9⟩ : ∃ W9, W9 = ((wq.setCell ⟨b, 0, none⟩ (.int .i64 N')).setCell ⟨b, 1, none⟩ (.int .i64 R')).setCell ⟨b, 2, none⟩ (.slice a' fs'.length c') := ⟨_, rfl⟩
            have HC9 : Hid (OuC D g b p9 w N' R' fs' a' c' W9) := Lib.hid (by rw [hW9]; exact HC8.out.turn HO'.out)
            rw [← hW9]
            clear hW9 HC8 HO' b0 b1 b2 bf
            have hp9' : p9 ≤ p + 6600 := by omega
            go_wp2_with fail
            refine (c_odd g p9 nn _ HC9.out.rd (by omega) (by omega) (by omega)).mono ?_
            rintro e wo ⟨od, rfl, ⟨po, hpo, hro⟩, hgo⟩
            have HCo := Lib.hid (HC9.out.by hgo hro)
            clear hro hgo HC9
            cases od
            · skip
              have HF := HCo.out.bx
              obtain ⟨c0, c1, c2, cf⟩ := HF.three
              obtain ⟨r0, r1, r2, rf⟩ := HCo.out.res.three
              have hlo := HCo.out.lo
              go_wp2
              refine bodyPost_ret (v := .agg #[.int .i64 N', .int .i64 R', .slice a' fs'.length c']) (by simp [results, Try.results47, go_sem, r0, r1, r2]) rfl ?_
              have hgw9 := HCo.out.gw
              have hD9 : D ≤ w.heap.size := by have := HCo.out.rd.1; omega
              have hne := row_ne HCo.out.own HCo.out.res (by decide)
              have hown := HCo.out.own
              refine ⟨N', R', a', c', fs', rfl, by omega, by omega, row_set (row_set (row_set hown _ _ hne) _ _ hne) _ _ hne, ⟨_, ?_, ((HCo.out.rd.other hD9 (by omega) _ _).other hD9 (by omega) _ _).other hD9 (by omega) _ _⟩, gb_set (gb_set (gb_set HCo.out.gr (Nat.le_refl _) _ _) (Nat.le_refl _) _ _) (Nat.le_refl _) _ _⟩
              omega
            · go_wp2_with fail
              refine (c_pick g po 4 _ HCo.out.rd (by omega) (by omega) (by omega)).mono ?_
              rintro e we ⟨x, rfl, m1, m2, _, hre, hge⟩
              have m3 := m2 (by omega)
              have HCe := Lib.hid (HCo.out.by hge hre)
              clear hre hge m2 HCo
              have hx : x = 0 ∨ x = 1 ∨ x = 2 ∨ x = 3 := by omega
              clear m1 m3
              rcases hx with rfl | rfl | rfl | rfl
              · obtain ⟨c0, c1, c2, cf⟩ := HCe.out.bx.three
                go_upto_region 19 with fail
                have HCf := Lib.hid (HCe.out.set0 256)
                clear c0 c1 c2 cf
                generalize we.setCell ⟨b, 0, none⟩ (.int .i64 256) = W9 at *
                have HF := HCf.out.bx
                obtain ⟨c0, c1, c2, cf⟩ := HF.three
                obtain ⟨r0, r1, r2, rf⟩ := HCf.out.res.three
                have hlo := HCf.out.lo
                go_wp2
                refine bodyPost_ret (v := .agg #[.int .i64 256, .int .i64 R', .slice a' fs'.length c']) (by simp [results, Try.results47, go_sem, r0, r1, r2]) rfl ?_
                have hgw9 := HCf.out.gw
                have hD9 : D ≤ w.heap.size := by have := HCf.out.rd.1; omega
                have hne := row_ne HCf.out.own HCf.out.res (by decide)
                have hown := HCf.out.own
                refine ⟨256, R', a', c', fs', rfl, by omega, by omega, row_set (row_set (row_set hown _ _ hne) _ _ hne) _ _ hne, ⟨_, ?_, ((HCf.out.rd.other hD9 (by omega) _ _).other hD9 (by omega) _ _).other hD9 (by omega) _ _⟩, gb_set (gb_set (gb_set HCf.out.gr (Nat.le_refl _) _ _) (Nat.le_refl _) _ _) (Nat.le_refl _) _ _⟩
                omega
              · go_wp2_with fail
                refine (c_pick g (po + 1) 2 _ (HCe.out.alloc _).rd (by omega) (by omega) (by omega)).mono ?_
                rintro e w8 ⟨t, rfl, m1, m2, _, hr8, hg8⟩
                have m3 := m2 (by omega)
                have hge' : g < we.heap.size := HCe.out.rd.lt
                have HL8 := Lib.hid ((Box.new we 3 [.int .i64 (-1), .int .i64 1000]).by hg8 (by omega))
                have HC8 := Lib.hid ((HCe.out.alloc (.cells #[.int .i64 (-1), .int .i64 1000] 3)).by hg8 hr8)
                clear hr8 hg8 m2 HCe
                have l0 := HL8.out.cell 0
                have l1 := HL8.out.cell 1
                simp only [List.getElem?_cons_zero, List.getElem?_cons_succ] at l0 l1
                obtain ⟨c0, c1, c2, cf⟩ := HC8.out.bx.three
                have ht : t = 0 ∨ t = 1 := by omega
                clear m1 m3
                rcases ht with rfl | rfl
                · go_upto_region 19 with fail
                  have HCf := Lib.hid (HC8.out.set1 (-1))
                  clear c0 c1 c2 cf
                  generalize w8.setCell ⟨b, 1, none⟩ (.int .i64 (-1)) = W9 at *
                  have HF := HCf.out.bx
                  obtain ⟨c0, c1, c2, cf⟩ := HF.three
                  obtain ⟨r0, r1, r2, rf⟩ := HCf.out.res.three
                  have hlo := HCf.out.lo
                  go_wp2
                  refine bodyPost_ret (v := .agg #[.int .i64 N', .int .i64 (-1), .slice a' fs'.length c']) (by simp [results, Try.results47, go_sem, r0, r1, r2]) rfl ?_
                  have hgw9 := HCf.out.gw
                  have hD9 : D ≤ w.heap.size := by have := HCf.out.rd.1; omega
                  have hne := row_ne HCf.out.own HCf.out.res (by decide)
                  have hown := HCf.out.own
                  refine ⟨N', (-1), a', c', fs', rfl, by omega, by omega, row_set (row_set (row_set hown _ _ hne) _ _ hne) _ _ hne, ⟨_, ?_, ((HCf.out.rd.other hD9 (by omega) _ _).other hD9 (by omega) _ _).other hD9 (by omega) _ _⟩, gb_set (gb_set (gb_set HCf.out.gr (Nat.le_refl _) _ _) (Nat.le_refl _) _ _) (Nat.le_refl _) _ _⟩
                  omega
                · go_upto_region 19 with fail
                  have HCf := Lib.hid (HC8.out.set1 1000)
                  clear c0 c1 c2 cf
                  generalize w8.setCell ⟨b, 1, none⟩ (.int .i64 1000) = W9 at *
                  have HF := HCf.out.bx
                  obtain ⟨c0, c1, c2, cf⟩ := HF.three
                  obtain ⟨r0, r1, r2, rf⟩ := HCf.out.res.three
                  have hlo := HCf.out.lo
                  go_wp2
                  refine bodyPost_ret (v := .agg #[.int .i64 N', .int .i64 1000, .slice a' fs'.length c']) (by simp [results, Try.results47, go_sem, r0, r1, r2]) rfl ?_
                  have hgw9 := HCf.out.gw
                  have hD9 : D ≤ w.heap.size := by have := HCf.out.rd.1; omega
                  have hne := row_ne HCf.out.own HCf.out.res (by decide)
                  have hown := HCf.out.own
                  refine ⟨N', 1000, a', c', fs', rfl, by omega, by omega, row_set (row_set (row_set hown _ _ hne) _ _ hne) _ _ hne, ⟨_, ?_, ((HCf.out.rd.other hD9 (by omega) _ _).other hD9 (by omega) _ _).other hD9 (by omega) _ _⟩, gb_set (gb_set (gb_set HCf.out.gr (Nat.le_refl _) _ _) (Nat.le_refl _) _ _) (Nat.le_refl _) _ _⟩
                  omega
              · have hgwe : g < we.heap.size := HCe.out.rd.lt
                have hDwe : D ≤ we.heap.size := by have := HCe.out.rd.1; omega
                have hloe := HCe.out.lo
                have hgwe' := HCe.out.gw
                go_upto_region 18 with fail
                refine region_draw _ D g (po + 1) 60 5 77 [69, 70, 71, 72, 73] [] [(69, fun v _ => v = .pointer (some ⟨b, 2, none⟩)), (70, fun v _ => v = .slice a' fs'.length c'), (71, fun v _ => v = .pointer (some ⟨g, 0, none⟩)), (72, fun v _ => FlowP v), (73, FlowS we.heap.size)] rfl (by kernel_rfl) hgwe hDwe HCe.out.rd (fun s hs => by cases hs) ?_ (fun s hs => by cases hs) rfl ?_ ?_
                · intro q hq
                  simp only [List.mem_cons, List.not_mem_nil, or_false] at hq
                  rcases hq with rfl | rfl | rfl | rfl | rfl
                  · exact stb_pure _
                  · exact stb_pure _
                  · exact stb_pure _
                  · exact stb_pure _
                  · exact FlowS.stb hgwe
                · refine ⟨?_, ?_, ?_, ?_, ?_, trivial⟩
                  · refine opR_val (d := 69) rfl rfl (fun fr9 wq hf hd hb => ?_) _
                    exact ⟨.pointer (some ⟨b, 2, none⟩), run_faO _ _ _ (.tmp 5) b rfl (hf 5 (by kernel_rfl)), rfl⟩
                  · refine opR_val (d := 70) rfl rfl (fun fr9 wq hf hd hb => ?_) _
                    exact ⟨.slice a' fs'.length c', run_ldOs _ _ _ (.tmp 69) b 2 _ rfl (hd 69 (by kernel_rfl)) ((HCe.out.bx.by hb (by omega)).cell 2), rfl⟩
                  · refine opR_val (d := 71) rfl rfl (fun fr9 wq hf hd hb => ⟨.pointer (some ⟨g, 0, none⟩), ?_, ?_⟩) _
                    · exact (run_mv _ _ _ (.tmp 0) _ (hf 0 (by kernel_rfl))).1 rfl
                    · exact rfl
                  · refine opR_of (d := 72) rfl rfl (fun k9 fr9 wq hk hf hd hb hW => ?_) _
                    obtain ⟨p', q1, q2⟩ := hW
                    have e71 : fr9.tmps.getD 71 undef = .pointer (some ⟨g, 0, none⟩) := hd 71 (by kernel_rfl)
                    have hv9 : (#[Operand.tmp 71, Operand.const (.int .i64 1)] : Array Operand).map fr9.eval = #[.pointer (some ⟨g, 0, none⟩), .int .i64 1] := by simp only [List.map_toArray, List.map_cons, List.map_nil, Act.eval, e71]
                    refine op_call rfl (run_callL _ _ _ 49 _ _ _ rfl rfl hv9 (enters_of Try.func49 (by kernel_rfl) rfl)) ?_
                    refine (s_l20Flow g p' 1 wq q2 (by omega) (by omega) (by omega)).mono ?_
                    rintro e w5 ⟨x0, x1, x2, x3, x4, rfl, ⟨p5, hp5, hr5⟩, g5⟩
                    exact ⟨_, rfl, _, rfl, ⟨x0, x1, x2, x3, x4, rfl⟩, g5, p5, by omega, hr5⟩
                  · refine opR_of (d := 73) rfl rfl (fun k9 fr9 wq hk hf hd hb hW => ?_) _
                    obtain ⟨p', q1, q2⟩ := hW
                    obtain ⟨x0, x1, x2, x3, x4, e0⟩ : FlowP (fr9.tmps.getD 72 undef) := hd 72 (by kernel_rfl)
                    exact wp_val2 rfl (run_bsF _ _ _ (.tmp 72) _ _ _ _ _ rfl e0) ⟨_, rfl, ⟨wq.heap.size, x0, x1, x2, x3, x4, rfl, hb.size, Box.new _ _ _⟩, grownBy_alloc _ _ _, p', by omega, q2.keep (grownBy_alloc _ _ _)⟩
                · intro fq wq hf hgr ⟨p9, hp9, hr9⟩
                  have e69 : fq 69 = .pointer (some ⟨b, 2, none⟩) := hf 69 (by decide)
                  have e70 : fq 70 = .slice a' fs'.length c' := hf 70 (by decide)
                  obtain ⟨k, x0, x1, x2, x3, x4, e73, hk, hB⟩ : FlowS we.heap.size (fq 73) wq := hf 73 (by decide)
                  simp only [List.drop_succ_cons, List.drop_zero, putL, Act.put, List.setIfInBounds_toArray, List.set_cons_succ, List.set_cons_zero, e69, e70, e73]
                  generalize fq 71 = f71 at *
                  generalize fq 72 = f72 at *
                  clear hf e69 e70 e73
                  have HC8 := Lib.hid (HCe.out.by hgr hr9)
                  have HBN := Lib.hid hB
                  clear hgr hr9 hB HCe
                  obtain ⟨c0, c1, c2, cf⟩ := HC8.out.bx.three
                  have hwz : w.heap.size ≤ wq.heap.size := HC8.out.gr.size
                  go_wp2_with (at_builtin; refine wpl_app _ rfl elemFlow (.tmp 70) (.tmp 73) rfl w.heap.size (.slice a' fs'.length c') fs'.length _ rfl HC8.out.own ⟨k, 0, none⟩ 1 1 _ rfl rfl (news_of HBN.out) (one5 _ _ _ _ _) (by decide) (by omega) hwz (fs'.length + 1) rfl (fCells (fs' ++ [(x0, x1, x2, x3, x4)])) (fCells_app1 _ _ _ _ _ _) ?_)
                  intro g9 c9 w9 o9 gr9 hat hlt9
                  have hlen : (fs' ++ [(x0, x1, x2, x3, x4)]).length = fs'.length + 1 := by simp
                  have hbx : Box w9 b 25 [.int .i64 N', .int .i64 R', .slice a' fs'.length c'] := HC8.out.bx.kept gr9 (row_ne HC8.out.own HC8.out.bx (by decide))
                  have hrs : Box w9 w.heap.size 25 [.int .i64 0, .int .i64 0, .slice none 0 0] := HC8.out.res.kept gr9 (row_ne HC8.out.own HC8.out.res (by decide))
                  have hown8 := HC8.out.own.lt
                  have hlo := HC8.out.lo
                  have hgw := HC8.out.gw
                  have hD1 : D ≤ g := HC8.out.rd.1
                  have hgr9 : w.grownBy w9 (some g) := gb_row9 HC8.out.gr gr9 (fun q hq => (hown8 q hq).1)
                  have hrd9 : Rd D w9 g p9 := by
                    cases hob : (Value.slice a' fs'.length c').ownBlock with
                    | none => rw [hob] at gr9; exact HC8.out.rd.keep gr9
                    | some q => rw [hob] at gr9; have := (hown8 q hob).1; exact HC8.out.rd.far gr9 (by omega) (by omega)
                  have HO9 := Lib.hid o9
                  have HBX := Lib.hid hbx
                  have HRS := Lib.hid hrs
                  have HGR := Lib.hid hgr9
                  have HRD := Lib.hid hrd9
                  clear o9 gr9 hat hbx hrs hgr9 hrd9 HC8 HBN c0 c1 c2 cf
                  obtain ⟨c0, c1, c2, cf⟩ := HBX.out.three
                  go_upto_region 19 with fail
                  obtain ⟨W10, hW10⟩ : ∃ W10, W10 = w9.setCell ⟨b, 2, none⟩ (.slice (some ⟨g9, 0, none⟩) (fs'.length + 1) c9) := ⟨_, rfl⟩
                  have HCA : Hid (OuC D g b p9 w N' R' (fs' ++ [(x0, x1, x2, x3, x4)]) (some ⟨g9, 0, none⟩) c9 W10) := Lib.hid (by
                    have hne := row_ne HO9.out HBX.out (by decide)
                    rw [hW10]
                    refine ⟨?_, ?_, HRS.out.other (by simp; omega) _, hlo, hgw, HRD.out.other (by omega) (by omega) _ _, gb_set HGR.out (b := b) (by omega) _ _⟩
                    · rw [hlen]; exact HBX.out.set 2 _
                    · rw [hlen]; exact row_set HO9.out _ _ hne)
                  rw [← hW10]
                  clear hW10 HO9 HBX HRS HGR HRD c0 c1 c2 cf
                  have HF := HCA.out.bx
                  rw [hlen] at HF
                  obtain ⟨c0, c1, c2, cf⟩ := HF.three
                  obtain ⟨r0, r1, r2, rf⟩ := HCA.out.res.three
                  have hlo := HCA.out.lo
                  go_wp2
                  refine bodyPost_ret (v := .agg #[.int .i64 N', .int .i64 R', .slice (some ⟨g9, 0, none⟩) (fs'.length + 1) c9]) (by simp [results, Try.results47, go_sem, r0, r1, r2]) rfl ?_
                  have hgw9 := HCA.out.gw
                  have hD9 : D ≤ w.heap.size := by have := HCA.out.rd.1; omega
                  have hne := row_ne HCA.out.own HCA.out.res (by decide)
                  have hown := HCA.out.own
                  refine ⟨N', R', (some ⟨g9, 0, none⟩), c9, (fs' ++ [(x0, x1, x2, x3, x4)]), by rw [hlen], by rw [hlen]; omega, by rw [hlen]; omega, row_set (row_set (row_set hown _ _ hne) _ _ hne) _ _ hne, ⟨_, ?_, ((HCA.out.rd.other hD9 (by omega) _ _).other hD9 (by omega) _ _).other hD9 (by omega) _ _⟩, gb_set (gb_set (gb_set HCA.out.gr (Nat.le_refl _) _ _) (Nat.le_refl _) _ _) (Nat.le_refl _) _ _⟩
                  omega
              · obtain ⟨c0, c1, c2, cf⟩ := HCe.out.bx.three
                have hwz : w.heap.size ≤ we.heap.size := HCe.out.gr.size
                obtain ⟨i0, hi, hz0, hz1, hz2⟩ := info_parts zeroFlow
                go_wp2_with (at_make; refine wpList_make_full _ rfl _ _ 23 rfl w.heap.size 27 i0 (.agg #[.int .i64 0, .int .i64 0, .int .i64 0, .int .i64 0, .int .i64 0]) 5 Try.underlying23 hi hz0 hz1 .i64 .i64 _ _ 9 rfl rfl rfl rfl ?c1 ?c2 ?c3 ?c4)
                case c1 => rw [hz2]; omega
                case c2 => unfold maxLen; omega
                case c3 => exact hwz
                case c4 =>
                  intro w9 hown9 hgr9
                  have hz9 := zeros5 9 (by omega) (by omega)
                  rw [zcells] at hz9
                  have hz9' : (madeCells #[Value.int .i64 0, .int .i64 0, .int .i64 0, .int .i64 0, .int .i64 0] 45).toList = fCells (List.replicate 9 z5) := hz9
                  rw [hz9'] at hown9
                  clear hz9 hz9'
                  have HC9 := Lib.hid (HCe.out.by (grown_any hgr9) (HCe.out.rd.keep hgr9))
                  have HO9 := Lib.hid hown9
                  clear hown9 hgr9 HCe c0 c1 c2 cf
                  obtain ⟨c0, c1, c2, cf⟩ := HC9.out.bx.three
                  go_upto_region 19 with fail
                  have hl9 : (List.replicate 9 z5).length = 9 := List.length_replicate ..
                  obtain ⟨W9, hW9⟩ : ∃ W9, W9 = w9.setCell ⟨b, 2, none⟩ (.slice (some ⟨we.heap.size, 0, none⟩) 9 9) := ⟨_, rfl⟩
                  have HCf : Hid (OuC D g b (po + 1) w N' R' (List.replicate 9 z5) (some ⟨we.heap.size, 0, none⟩) 9 W9) := Lib.hid (by
                    have := HC9.out.set2 (es' := List.replicate 9 z5) (a' := some ⟨we.heap.size, 0, none⟩) (cap' := 9) (by rw [hl9]; exact HO9.out)
                    rw [hl9] at this
                    rw [hW9]; exact this)
                  rw [← hW9]
                  clear hW9 HC9 HO9 c0 c1 c2 cf
                  have HF := HCf.out.bx
                  rw [hl9] at HF
                  obtain ⟨c0, c1, c2, cf⟩ := HF.three
                  obtain ⟨r0, r1, r2, rf⟩ := HCf.out.res.three
                  have hlo := HCf.out.lo
                  go_wp2
                  refine bodyPost_ret (v := .agg #[.int .i64 N', .int .i64 R', .slice (some ⟨we.heap.size, 0, none⟩) 9 9]) (by simp [results, Try.results47, go_sem, r0, r1, r2]) rfl ?_
                  have hgw9 := HCf.out.gw
                  have hD9 : D ≤ w.heap.size := by have := HCf.out.rd.1; omega
                  have hne := row_ne HCf.out.own HCf.out.res (by decide)
                  have hown := HCf.out.own
                  refine ⟨N', R', (some ⟨we.heap.size, 0, none⟩), 9, (List.replicate 9 z5), by rw [hl9], by rw [hl9]; omega, by rw [hl9]; omega, row_set (row_set (row_set hown _ _ hne) _ _ hne) _ _ hne, ⟨_, ?_, ((HCf.out.rd.other hD9 (by omega) _ _).other hD9 (by omega) _ _).other hD9 (by omega) _ _⟩, gb_set (gb_set (gb_set HCf.out.gr (Nat.le_refl _) _ _) (Nat.le_refl _) _ _) (Nat.le_refl _) _ _⟩
                  omega
        · go_wp2_with fail
          refine (c_odd g (q + 1) nn _ HC7.out.rd (by omega) (by omega) (by omega)).mono ?_
          rintro e wo ⟨od, rfl, ⟨po, hpo, hro⟩, hgo⟩
          have HCo := Lib.hid (HC7.out.by hgo hro)
          clear hro hgo HC7
          cases od
          · skip
            have HF := HCo.out.bx
            obtain ⟨c0, c1, c2, cf⟩ := HF.three
            obtain ⟨r0, r1, r2, rf⟩ := HCo.out.res.three
            have hlo := HCo.out.lo
            go_wp2
            refine bodyPost_ret (v := .agg #[.int .i64 N, .int .i64 R, .slice a fs.length cap]) (by simp [results, Try.results47, go_sem, r0, r1, r2]) rfl ?_
            have hgw9 := HCo.out.gw
            have hD9 : D ≤ w.heap.size := by have := HCo.out.rd.1; omega
            have hne := row_ne HCo.out.own HCo.out.res (by decide)
            have hown := HCo.out.own
            refine ⟨N, R, a, cap, fs, rfl, by omega, by omega, row_set (row_set (row_set hown _ _ hne) _ _ hne) _ _ hne, ⟨_, ?_, ((HCo.out.rd.other hD9 (by omega) _ _).other hD9 (by omega) _ _).other hD9 (by omega) _ _⟩, gb_set (gb_set (gb_set HCo.out.gr (Nat.le_refl _) _ _) (Nat.le_refl _) _ _) (Nat.le_refl _) _ _⟩
            omega
          · go_wp2_with fail
            refine (c_pick g po 4 _ HCo.out.rd (by omega) (by omega) (by omega)).mono ?_
            rintro e we ⟨x, rfl, m1, m2, _, hre, hge⟩
            have m3 := m2 (by omega)
            have HCe := Lib.hid (HCo.out.by hge hre)
            clear hre hge m2 HCo
            have hx : x = 0 ∨ x = 1 ∨ x = 2 ∨ x = 3 := by omega
            clear m1 m3
            rcases hx with rfl | rfl | rfl | rfl
            · obtain ⟨c0, c1, c2, cf⟩ := HCe.out.bx.three
              go_upto_region 19 with fail
              have HCf := Lib.hid (HCe.out.set0 256)
              clear c0 c1 c2 cf
              generalize we.setCell ⟨b, 0, none⟩ (.int .i64 256) = W9 at *
              have HF := HCf.out.bx
              obtain ⟨c0, c1, c2, cf⟩ := HF.three
              obtain ⟨r0, r1, r2, rf⟩ := HCf.out.res.three
              have hlo := HCf.out.lo
              go_wp2
              refine bodyPost_ret (v := .agg #[.int .i64 256, .int .i64 R, .slice a fs.length cap]) (by simp [results, Try.results47, go_sem, r0, r1, r2]) rfl ?_
              have hgw9 := HCf.out.gw
              have hD9 : D ≤ w.heap.size := by have := HCf.out.rd.1; omega
              have hne := row_ne HCf.out.own HCf.out.res (by decide)
              have hown := HCf.out.own
              refine ⟨256, R, a, cap, fs, rfl, by omega, by omega, row_set (row_set (row_set hown _ _ hne) _ _ hne) _ _ hne, ⟨_, ?_, ((HCf.out.rd.other hD9 (by omega) _ _).other hD9 (by omega) _ _).other hD9 (by omega) _ _⟩, gb_set (gb_set (gb_set HCf.out.gr (Nat.le_refl _) _ _) (Nat.le_refl _) _ _) (Nat.le_refl _) _ _⟩
              omega
            · go_wp2_with fail
              refine (c_pick g (po + 1) 2 _ (HCe.out.alloc _).rd (by omega) (by omega) (by omega)).mono ?_
              rintro e w8 ⟨t, rfl, m1, m2, _, hr8, hg8⟩
              have m3 := m2 (by omega)
              have hge' : g < we.heap.size := HCe.out.rd.lt
              have HL8 := Lib.hid ((Box.new we 3 [.int .i64 (-1), .int .i64 1000]).by hg8 (by omega))
              have HC8 := Lib.hid ((HCe.out.alloc (.cells #[.int .i64 (-1), .int .i64 1000] 3)).by hg8 hr8)
              clear hr8 hg8 m2 HCe
              have l0 := HL8.out.cell 0
              have l1 := HL8.out.cell 1
              simp only [List.getElem?_cons_zero, List.getElem?_cons_succ] at l0 l1
              obtain ⟨c0, c1, c2, cf⟩ := HC8.out.bx.three
              have ht : t = 0 ∨ t = 1 := by omega
              clear m1 m3
              rcases ht with rfl | rfl
              · go_upto_region 19 with fail
                have HCf := Lib.hid (HC8.out.set1 (-1))
                clear c0 c1 c2 cf
                generalize w8.setCell ⟨b, 1, none⟩ (.int .i64 (-1)) = W9 at *
                have HF := HCf.out.bx
                obtain ⟨c0, c1, c2, cf⟩ := HF.three
                obtain ⟨r0, r1, r2, rf⟩ := HCf.out.res.three
                have hlo := HCf.out.lo
                go_wp2
                refine bodyPost_ret (v := .agg #[.int .i64 N, .int .i64 (-1), .slice a fs.length cap]) (by simp [results, Try.results47, go_sem, r0, r1, r2]) rfl ?_
                have hgw9 := HCf.out.gw
                have hD9 : D ≤ w.heap.size := by have := HCf.out.rd.1; omega
                have hne := row_ne HCf.out.own HCf.out.res (by decide)
                have hown := HCf.out.own
                refine ⟨N, (-1), a, cap, fs, rfl, by omega, by omega, row_set (row_set (row_set hown _ _ hne) _ _ hne) _ _ hne, ⟨_, ?_, ((HCf.out.rd.other hD9 (by omega) _ _).other hD9 (by omega) _ _).other hD9 (by omega) _ _⟩, gb_set (gb_set (gb_set HCf.out.gr (Nat.le_refl _) _ _) (Nat.le_refl _) _ _) (Nat.le_refl _) _ _⟩
                omega
              · go_upto_region 19 with fail
                have HCf := Lib.hid (HC8.out.set1 1000)
                clear c0 c1 c2 cf
                generalize w8.setCell ⟨b, 1, none⟩ (.int .i64 1000) = W9 at *
                have HF := HCf.out.bx
                obtain ⟨c0, c1, c2, cf⟩ := HF.three
                obtain ⟨r0, r1, r2, rf⟩ := HCf.out.res.three
                have hlo := HCf.out.lo
                go_wp2
                refine bodyPost_ret (v := .agg #[.int .i64 N, .int .i64 1000, .slice a fs.length cap]) (by simp [results, Try.results47, go_sem, r0, r1, r2]) rfl ?_
                have hgw9 := HCf.out.gw
                have hD9 : D ≤ w.heap.size := by have := HCf.out.rd.1; omega
                have hne := row_ne HCf.out.own HCf.out.res (by decide)
                have hown := HCf.out.own
                refine ⟨N, 1000, a, cap, fs, rfl, by omega, by omega, row_set (row_set (row_set hown _ _ hne) _ _ hne) _ _ hne, ⟨_, ?_, ((HCf.out.rd.other hD9 (by omega) _ _).other hD9 (by omega) _ _).other hD9 (by omega) _ _⟩, gb_set (gb_set (gb_set HCf.out.gr (Nat.le_refl _) _ _) (Nat.le_refl _) _ _) (Nat.le_refl _) _ _⟩
                omega
            · have hgwe : g < we.heap.size := HCe.out.rd.lt
              have hDwe : D ≤ we.heap.size := by have := HCe.out.rd.1; omega
              have hloe := HCe.out.lo
              have hgwe' := HCe.out.gw
              go_upto_region 18 with fail
              refine region_draw _ D g (po + 1) 60 5 77 [69, 70, 71, 72, 73] [] [(69, fun v _ => v = .pointer (some ⟨b, 2, none⟩)), (70, fun v _ => v = .slice a fs.length cap), (71, fun v _ => v = .pointer (some ⟨g, 0, none⟩)), (72, fun v _ => FlowP v), (73, FlowS we.heap.size)] rfl (by kernel_rfl) hgwe hDwe HCe.out.rd (fun s hs => by cases hs) ?_ (fun s hs => by cases hs) rfl ?_ ?_
              · intro q hq
                simp only [List.mem_cons, List.not_mem_nil, or_false] at hq
                rcases hq with rfl | rfl | rfl | rfl | rfl
                · exact stb_pure _
                · exact stb_pure _
                · exact stb_pure _
                · exact stb_pure _
                · exact FlowS.stb hgwe
              · refine ⟨?_, ?_, ?_, ?_, ?_, trivial⟩
                · refine opR_val (d := 69) rfl rfl (fun fr9 wq hf hd hb => ?_) _
                  exact ⟨.pointer (some ⟨b, 2, none⟩), run_faO _ _ _ (.tmp 5) b rfl (hf 5 (by kernel_rfl)), rfl⟩
                · refine opR_val (d := 70) rfl rfl (fun fr9 wq hf hd hb => ?_) _
                  exact ⟨.slice a fs.length cap, run_ldOs _ _ _ (.tmp 69) b 2 _ rfl (hd 69 (by kernel_rfl)) ((HCe.out.bx.by hb (by omega)).cell 2), rfl⟩
                · refine opR_val (d := 71) rfl rfl (fun fr9 wq hf hd hb => ⟨.pointer (some ⟨g, 0, none⟩), ?_, ?_⟩) _
                  · exact (run_mv _ _ _ (.tmp 0) _ (hf 0 (by kernel_rfl))).1 rfl
                  · exact rfl
                · refine opR_of (d := 72) rfl rfl (fun k9 fr9 wq hk hf hd hb hW => ?_) _
                  obtain ⟨p', q1, q2⟩ := hW
                  have e71 : fr9.tmps.getD 71 undef = .pointer (some ⟨g, 0, none⟩) := hd 71 (by kernel_rfl)
                  have hv9 : (#[Operand.tmp 71, Operand.const (.int .i64 1)] : Array Operand).map fr9.eval = #[.pointer (some ⟨g, 0, none⟩), .int .i64 1] := by simp only [List.map_toArray, List.map_cons, List.map_nil, Act.eval, e71]
                  refine op_call rfl (run_callL _ _ _ 49 _ _ _ rfl rfl hv9 (enters_of Try.func49 (by kernel_rfl) rfl)) ?_
                  refine (s_l20Flow g p' 1 wq q2 (by omega) (by omega) (by omega)).mono ?_
                  rintro e w5 ⟨x0, x1, x2, x3, x4, rfl, ⟨p5, hp5, hr5⟩, g5⟩
                  exact ⟨_, rfl, _, rfl, ⟨x0, x1, x2, x3, x4, rfl⟩, g5, p5, by omega, hr5⟩
                · refine opR_of (d := 73) rfl rfl (fun k9 fr9 wq hk hf hd hb hW => ?_) _
                  obtain ⟨p', q1, q2⟩ := hW
                  obtain ⟨x0, x1, x2, x3, x4, e0⟩ : FlowP (fr9.tmps.getD 72 undef) := hd 72 (by kernel_rfl)
                  exact wp_val2 rfl (run_bsF _ _ _ (.tmp 72) _ _ _ _ _ rfl e0) ⟨_, rfl, ⟨wq.heap.size, x0, x1, x2, x3, x4, rfl, hb.size, Box.new _ _ _⟩, grownBy_alloc _ _ _, p', by omega, q2.keep (grownBy_alloc _ _ _)⟩
              · intro fq wq hf hgr ⟨p9, hp9, hr9⟩
                have e69 : fq 69 = .pointer (some ⟨b, 2, none⟩) := hf 69 (by decide)
                have e70 : fq 70 = .slice a fs.length cap := hf 70 (by decide)
                obtain ⟨k, x0, x1, x2, x3, x4, e73, hk, hB⟩ : FlowS we.heap.size (fq 73) wq := hf 73 (by decide)
                simp only [List.drop_succ_cons, List.drop_zero, putL, Act.put, List.setIfInBounds_toArray, List.set_cons_succ, List.set_cons_zero, e69, e70, e73]
                generalize fq 71 = f71 at *
                generalize fq 72 = f72 at *
                clear hf e69 e70 e73
                have HC8 := Lib.hid (HCe.out.by hgr hr9)
                have HBN := Lib.hid hB
                clear hgr hr9 hB HCe
                obtain ⟨c0, c1, c2, cf⟩ := HC8.out.bx.three
                have hwz : w.heap.size ≤ wq.heap.size := HC8.out.gr.size
                go_wp2_with (at_builtin; refine wpl_app _ rfl elemFlow (.tmp 70) (.tmp 73) rfl w.heap.size (.slice a fs.length cap) fs.length _ rfl HC8.out.own ⟨k, 0, none⟩ 1 1 _ rfl rfl (news_of HBN.out) (one5 _ _ _ _ _) (by decide) (by omega) hwz (fs.length + 1) rfl (fCells (fs ++ [(x0, x1, x2, x3, x4)])) (fCells_app1 _ _ _ _ _ _) ?_)
                intro g9 c9 w9 o9 gr9 hat hlt9
                have hlen : (fs ++ [(x0, x1, x2, x3, x4)]).length = fs.length + 1 := by simp
                have hbx : Box w9 b 25 [.int .i64 N, .int .i64 R, .slice a fs.length cap] := HC8.out.bx.kept gr9 (row_ne HC8.out.own HC8.out.bx (by decide))
                have hrs : Box w9 w.heap.size 25 [.int .i64 0, .int .i64 0, .slice none 0 0] := HC8.out.res.kept gr9 (row_ne HC8.out.own HC8.out.res (by decide))
                have hown8 := HC8.out.own.lt
                have hlo := HC8.out.lo
                have hgw := HC8.out.gw
                have hD1 : D ≤ g := HC8.out.rd.1
                have hgr9 : w.grownBy w9 (some g) := gb_row9 HC8.out.gr gr9 (fun q hq => (hown8 q hq).1)
                have hrd9 : Rd D w9 g p9 := by
                  cases hob : (Value.slice a fs.length cap).ownBlock with
                  | none => rw [hob] at gr9; exact HC8.out.rd.keep gr9
                  | some q => rw [hob] at gr9; have := (hown8 q hob).1; exact HC8.out.rd.far gr9 (by omega) (by omega)
                have HO9 := Lib.hid o9
                have HBX := Lib.hid hbx
                have HRS := Lib.hid hrs
                have HGR := Lib.hid hgr9
                have HRD := Lib.hid hrd9
                clear o9 gr9 hat hbx hrs hgr9 hrd9 HC8 HBN c0 c1 c2 cf
                obtain ⟨c0, c1, c2, cf⟩ := HBX.out.three
                go_upto_region 19 with fail
                obtain ⟨W10, hW10⟩ : ∃ W10, W10 = w9.setCell ⟨b, 2, none⟩ (.slice (some ⟨g9, 0, none⟩) (fs.length + 1) c9) := ⟨_, rfl⟩
                have HCA : Hid (OuC D g b p9 w N R (fs ++ [(x0, x1, x2, x3, x4)]) (some ⟨g9, 0, none⟩) c9 W10) := Lib.hid (by
                  have hne := row_ne HO9.out HBX.out (by decide)
                  rw [hW10]
                  refine ⟨?_, ?_, HRS.out.other (by simp; omega) _, hlo, hgw, HRD.out.other (by omega) (by omega) _ _, gb_set HGR.out (b := b) (by omega) _ _⟩
                  · rw [hlen]; exact HBX.out.set 2 _
                  · rw [hlen]; exact row_set HO9.out _ _ hne)
                rw [← hW10]
                clear hW10 HO9 HBX HRS HGR HRD c0 c1 c2 cf
                have HF := HCA.out.bx
                rw [hlen] at HF
                obtain ⟨c0, c1, c2, cf⟩ := HF.three
                obtain ⟨r0, r1, r2, rf⟩ := HCA.out.res.three
                have hlo := HCA.out.lo
                go_wp2
                refine bodyPost_ret (v := .agg #[.int .i64 N, .int .i64 R, .slice (some ⟨g9, 0, none⟩) (fs.length + 1) c9]) (by simp [results, Try.results47, go_sem, r0, r1, r2]) rfl ?_
                have hgw9 := HCA.out.gw
                have hD9 : D ≤ w.heap.size := by have := HCA.out.rd.1; omega
                have hne := row_ne HCA.out.own HCA.out.res (by decide)
                have hown := HCA.out.own
                refine ⟨N, R, (some ⟨g9, 0, none⟩), c9, (fs ++ [(x0, x1, x2, x3, x4)]), by rw [hlen], by rw [hlen]; omega, by rw [hlen]; omega, row_set (row_set (row_set hown _ _ hne) _ _ hne) _ _ hne, ⟨_, ?_, ((HCA.out.rd.other hD9 (by omega) _ _).other hD9 (by omega) _ _).other hD9 (by omega) _ _⟩, gb_set (gb_set (gb_set HCA.out.gr (Nat.le_refl _) _ _) (Nat.le_refl _) _ _) (Nat.le_refl _) _ _⟩
                omega
            · obtain ⟨c0, c1, c2, cf⟩ := HCe.out.bx.three
              have hwz : w.heap.size ≤ we.heap.size := HCe.out.gr.size
              obtain ⟨i0, hi, hz0, hz1, hz2⟩ := info_parts zeroFlow
              go_wp2_with (at_make; refine wpList_make_full _ rfl _ _ 23 rfl w.heap.size 27 i0 (.agg #[.int .i64 0, .int .i64 0, .int .i64 0, .int .i64 0, .int .i64 0]) 5 Try.underlying23 hi hz0 hz1 .i64 .i64 _ _ 9 rfl rfl rfl rfl ?c1 ?c2 ?c3 ?c4)
              case c1 => rw [hz2]; omega
              case c2 => unfold maxLen; omega
              case c3 => exact hwz
              case c4 =>
                intro w9 hown9 hgr9
                have hz9 := zeros5 9 (by omega) (by omega)
                rw [zcells] at hz9
                have hz9' : (madeCells #[Value.int .i64 0, .int .i64 0, .int .i64 0, .int .i64 0, .int .i64 0] 45).toList = fCells (List.replicate 9 z5) := hz9
                rw [hz9'] at hown9
                clear hz9 hz9'
                have HC9 := Lib.hid (HCe.out.by (grown_any hgr9) (HCe.out.rd.keep hgr9))
                have HO9 := Lib.hid hown9
                clear hown9 hgr9 HCe c0 c1 c2 cf
                obtain ⟨c0, c1, c2, cf⟩ := HC9.out.bx.three
                go_upto_region 19 with fail
                have hl9 : (List.replicate 9 z5).length = 9 := List.length_replicate ..
                obtain ⟨W9, hW9⟩ : ∃ W9, W9 = w9.setCell ⟨b, 2, none⟩ (.slice (some ⟨we.heap.size, 0, none⟩) 9 9) := ⟨_, rfl⟩
                have HCf : Hid (OuC D g b (po + 1) w N R (List.replicate 9 z5) (some ⟨we.heap.size, 0, none⟩) 9 W9) := Lib.hid (by
                  have := HC9.out.set2 (es' := List.replicate 9 z5) (a' := some ⟨we.heap.size, 0, none⟩) (cap' := 9) (by rw [hl9]; exact HO9.out)
                  rw [hl9] at this
                  rw [hW9]; exact this)
                rw [← hW9]
                clear hW9 HC9 HO9 c0 c1 c2 cf
                have HF := HCf.out.bx
                rw [hl9] at HF
                obtain ⟨c0, c1, c2, cf⟩ := HF.three
                obtain ⟨r0, r1, r2, rf⟩ := HCf.out.res.three
                have hlo := HCf.out.lo
                go_wp2
                refine bodyPost_ret (v := .agg #[.int .i64 N, .int .i64 R, .slice (some ⟨we.heap.size, 0, none⟩) 9 9]) (by simp [results, Try.results47, go_sem, r0, r1, r2]) rfl ?_
                have hgw9 := HCf.out.gw
                have hD9 : D ≤ w.heap.size := by have := HCf.out.rd.1; omega
                have hne := row_ne HCf.out.own HCf.out.res (by decide)
                have hown := HCf.out.own
                refine ⟨N, R, (some ⟨we.heap.size, 0, none⟩), 9, (List.replicate 9 z5), by rw [hl9], by rw [hl9]; omega, by rw [hl9]; omega, row_set (row_set (row_set hown _ _ hne) _ _ hne) _ _ hne, ⟨_, ?_, ((HCf.out.rd.other hD9 (by omega) _ _).other hD9 (by omega) _ _).other hD9 (by omega) _ _⟩, gb_set (gb_set (gb_set HCf.out.gr (Nat.le_refl _) _ _) (Nat.le_refl _) _ _) (Nat.le_refl _) _ _⟩
                omega
end Go.Proofs.Ytalalapjanckdaa
