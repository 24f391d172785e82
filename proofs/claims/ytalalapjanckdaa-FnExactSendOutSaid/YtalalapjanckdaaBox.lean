/- A struct's own block, known whole; small lemmas on worlds. No program in sight but the seat's own name. -/
import Derived.Test.YtalalapjanckdaaInts
namespace Go.Proofs.Ytalalapjanckdaa
open Go.RowKit
/-- The block g holds just the cells vs, of element type T, and nothing of it is frozen. -/
def Box (w : World) (g : Nat) (T : TypeId) (vs : List Value) : Prop := w.heap[g]? = some (.cells vs.toArray T (0, 0))
theorem Box.cell {w : World} {g T : Nat} {vs : List Value} (h : Box w g T vs) (i : Nat) : w.cell? ⟨g, i, none⟩ = vs[i]? := by
  rw [cell_of_row w g i _ T (0, 0) h]; simp
theorem Box.frozen {w : World} {g T : Nat} {vs : List Value} (h : Box w g T vs) (i : Nat) : w.frozen? ⟨g, i, none⟩ = false := frozen_of_row w g i _ T h
theorem Box.lt {w : World} {g T : Nat} {vs : List Value} (h : Box w g T vs) : g < w.heap.size := by
  rcases Nat.lt_or_ge g w.heap.size with h' | h'
  · exact h'
  · rw [Box, Array.getElem?_eq_none h'] at h; cases h
theorem Box.new (w : World) (T : TypeId) (vs : List Value) : Box (w.alloc (.cells vs.toArray T)) w.heap.size T vs := heap_alloc_new w _
theorem Box.below {B : Nat} {w w' : World} {g T : Nat} {vs : List Value} (h : Box w g T vs) (hb : Below B w w') (hg : g < B) : Box w' g T vs := (hb.block g hg).trans h
theorem Box.keep {w w' : World} {g T : Nat} {vs : List Value} (h : Box w g T vs) (hb : Below w.heap.size w w') : Box w' g T vs := h.below hb h.lt
theorem Box.alloc {w : World} {g T : Nat} {vs : List Value} (h : Box w g T vs) (o : Obj) : Box (w.alloc o) g T vs := (Below.heap_alloc w o g h.lt).trans h
theorem Box.drew {w : World} {g T : Nat} {vs : List Value} (h : Box w g T vs) : Box w.drew g T vs := h
theorem Box.drewN {w : World} {g T : Nat} {vs : List Value} (h : Box w g T vs) (n : Nat) : Box (w.drewN n) g T vs := h
theorem Box.other {w : World} {g T : Nat} {vs : List Value} (h : Box w g T vs) {p : Addr} (hp : g ≠ p.block) (u : Value) : Box (w.setCell p u) g T vs := (Below.heap_setCell w p u g hp).trans h
theorem Box.set {w : World} {g T : Nat} {vs : List Value} (h : Box w g T vs) (i : Nat) (u : Value) : Box (w.setCell ⟨g, i, none⟩ u) g T (vs.set i u) := by
  have := heap_setCell_same w g i _ T u h
  rw [Box, this]; simp
theorem keep {w : World} {p : Addr} {v : Value} (h : w.cell? p = some v) (o : Obj) : (w.alloc o).cell? p = some v := (World.cell?_alloc_lt _ _ _ (World.block_lt_of_cell? w p h)).trans h
theorem Below.step {B : Nat} {w0 w1 w2 : World} (h : Below B w0 w1) (hb : Below w1.heap.size w1 w2) (hB : B ≤ w1.heap.size) : Below B w0 w2 := h.trans (hb.mono hB)
theorem ret_int {a b : Int} (h : a = b) : Ending.returned (.int .i64 a) = .returned (.int .i64 b) := by rw [h]
theorem ret_bool {a b : Bool} (h : a = b) : Ending.returned (.bool a) = .returned (.bool b) := by rw [h]
theorem bcell {W w1 : World} (hb : Below W.heap.size W w1) : (∀ b o, b < W.heap.size → w1.cell? ⟨b, o, none⟩ = W.cell? ⟨b, o, none⟩) ∧ (∀ b o, b < W.heap.size → w1.frozen? ⟨b, o, none⟩ = W.frozen? ⟨b, o, none⟩) ∧ W.heap.size ≤ w1.heap.size :=
  ⟨fun b o h => hb.cell (p := ⟨b, o, none⟩) h, fun b o h => hb.frozen (p := ⟨b, o, none⟩) h, hb.size⟩
/-- n lies in lo..hi. -/
def inB (n lo hi : Int) : Bool := decide (lo ≤ n) && decide (n ≤ hi)
theorem inB_true {n lo hi : Int} : inB n lo hi = true ↔ lo ≤ n ∧ n ≤ hi := by simp [inB]
theorem inB_false {n lo hi : Int} : inB n lo hi = false ↔ n < lo ∨ hi < n := by
  rw [← Bool.not_eq_true, inB_true]; omega
theorem c_in (n lo hi : Int) (w : World) :
    Calls Try.prog 63 #[.int .i64 n, .int .i64 lo, .int .i64 hi] w fun e w' => e = .returned (.bool (inB n lo hi)) ∧ w = w' := by
  by_cases h1 : lo ≤ n <;> by_cases h2 : n ≤ hi
  all_goals
    go_enter Try.func63, Try.ntmps63
    go_wp2
    go_ret
    exact ⟨by simp [inB, h1, h2], rfl⟩
theorem c_l1In (n lo hi : Int) (w : World) :
    Calls Try.prog 73 #[.int .i64 n, .int .i64 lo, .int .i64 hi] w fun e w' => e = .returned (.bool (inB n lo hi)) ∧ w = w' := by
  by_cases h1 : lo ≤ n <;> by_cases h2 : n ≤ hi
  all_goals
    go_enter Try.func73, Try.ntmps73
    go_wp2
    go_ret
    exact ⟨by simp [inB, h1, h2], rfl⟩
end Go.Proofs.Ytalalapjanckdaa
