/- Regions that draw their order, whose own operations only read and whose callees make memory: one walk of the lexical order, over the worlds that came of the one at hand. No condition. -/
import Derived.Test.YtalalapjanckdaaBas
namespace Go.Proofs.Ytalalapjanckdaa
open Go.RowKit
/-- The worlds that came of w by making memory. -/
structure Aft (w : World) where
  W : World
  le : Below w.heap.size w W
instance (w : World) : Nonempty (Aft w) := ⟨⟨w, Below.refl _ _⟩⟩
theorem wp_region_quietC {id : Nat} {Q : Exit → Act → World → Prop} {a : Act} {w : World} {l : List Oper} (hm : Try.prog.follows .mixedOrders = true) (hB : Region.lexB .any l.toArray = true)
    (h : wpQuiet Try.prog l.toArray (fun w' => ∃ n : Aft w, w' = n.W) (fun a' => ∀ w', (∃ n : Aft w, w' = n.W) → Q .normal a' w') l a) : (Code.region id l.toArray true).wp Try.prog Q a w :=
  wp_region_quiet (C := fun w' => ∃ n : Aft w, w' = n.W) hm hB ⟨⟨w.drew, (Below.refl _ _).drew⟩, rfl⟩ (by simpa using h)
theorem aft_call {f : FuncId} {args : Array Value} {w : World} {n : Aft w} {v : Value} (h : Calls Try.prog f args n.W fun e w' => e = .returned v ∧ Below n.W.heap.size n.W w') :
    Calls Try.prog f args n.W fun e w'' => e = .returned v ∧ ∃ m : Aft w, w'' = m.W :=
  h.mono fun _ w'' ⟨he, hb⟩ => ⟨he, ⟨w'', Below.step n.le hb n.le.size⟩, rfl⟩
theorem aft_same {f : FuncId} {args : Array Value} {w : World} {n : Aft w} {v : Value} (h : Calls Try.prog f args n.W fun e w' => e = .returned v ∧ w' = n.W) :
    Calls Try.prog f args n.W fun e w'' => e = .returned v ∧ ∃ m : Aft w, w'' = m.W :=
  h.mono fun _ _ ⟨he, hb⟩ => ⟨he, n, hb⟩
theorem aft_cell {w : World} {p : Addr} {v : Value} (h : w.cell? p = some v) : ∀ n : Aft w, n.W.cell? p = some v := fun n => (n.le.cell (World.block_lt_of_cell? _ _ h)).trans h
end Go.Proofs.Ytalalapjanckdaa
