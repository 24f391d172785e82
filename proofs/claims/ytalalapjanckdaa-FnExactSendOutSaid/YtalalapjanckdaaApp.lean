/- Small laws for a drawn list that grows by 'append'. -/
import Derived.Test.YtalalapjanckdaaDLaw
import Derived.Deep.AppendLies
import Derived.Deep.Onto
namespace Go.Proofs.Ytalalapjanckdaa
open Go.RowKit
variable {D : Nat}
theorem news_one (w : World) (T : TypeId) (v : Value) : ∀ (j : Nat) (u : Value), [v][j]? = some u → (w.alloc (.cells #[v] T)).cell? ((⟨w.heap.size, 0, none⟩ : Addr).add j) = some u := by
  intro j u hu
  match j, hu with
  | 0, hu =>
    have := (Box.new w T [v]).cell 0
    simpa [Addr.add] using this.trans hu
theorem one_cell (k : Int) : ∀ u ∈ [Value.int .i64 k], u.oneCell' = true := by
  intro u hu
  simp only [List.mem_cons, List.not_mem_nil, or_false] at hu
  subst hu
  rfl
theorem infoInt8 : (Try.prog.info? 3).map (fun i => (i.zero, i.size, i.bytes)) = some (some (.int .i64 0), 1, 8) := by kernel_rfl
/-- The reader stands while another's block turns. -/
theorem Rd.far {w w' : World} {g p b : Nat} (h : Rd D w g p) (hb : w.grownBy w' (some b)) (hD : D ≤ b) (hbg : b ≠ g) : Rd D w' g p := by
  have hlt := h.lt
  obtain ⟨hDg, a, len, cap, h1, h2, h3⟩ := h
  refine ⟨hDg, a, len, cap, (hb.block g hlt (fun e => hbg (by simpa using e.symm))).trans h1, h2, h3.imp id ?_⟩
  rintro ⟨c, off, ha, hne, hlt2, hc⟩
  exact ⟨c, off, ha, hne, Nat.lt_of_lt_of_le hlt2 hb.size, fun i hi => by
    obtain ⟨x, hx, hx2⟩ := hc i hi
    exact ⟨x, (World.cell?_of_block (hb.block c hlt2 (by
      intro e
      have : c = b := by simpa using e
      omega))).trans hx, hx2⟩⟩
/-- What turns only a block of one's own turns nothing that was there. -/
theorem gb_own {w w1 w2 : World} {r : Option Nat} {b : Nat} (h : w.grownBy w1 r) (k : w1.grownBy w2 (some b)) (hb : w.heap.size ≤ b) : w.grownBy w2 r :=
  ⟨k.os.trans h.os, k.tape.trans h.tape, k.output.trans h.output, Nat.le_trans h.size k.size, fun i hi hr => (k.block i (Nat.lt_of_lt_of_le hi h.size) (by
    intro e
    have : i = b := by simpa using e
    omega)).trans (h.block i hi hr)⟩
theorem gb_none' {w w' w'' : World} {r : Option Nat} (h : w.grownBy w' none) (k : w'.grownBy w'' r) : w.grownBy w'' r :=
  grownBy_tr ⟨h.os, h.tape, h.output, h.size, fun i hi _ => h.block i hi (by simp)⟩ k
/-- A list of at most m numbers in a range is drawn; besides the reader nothing that was there has turned. -/
def RetL (D : Nat) (w : World) (g p m : Nat) (most : Nat) (lo hi : Int) (e : Ending) (w' : World) : Prop :=
  ∃ (b cap : Nat) (xs : List Int), e = .returned (.slice (some ⟨b, 0, none⟩) xs.length cap) ∧ xs.length ≤ most ∧ (∀ x ∈ xs, lo ≤ x ∧ x ≤ hi) ∧
    w'.ownsRow w.heap.size 3 1 (.slice (some ⟨b, 0, none⟩) xs.length cap) xs.length (xs.map (Value.int .i64)) ∧ (∃ p', p' ≤ p + m ∧ Rd D w' g p') ∧ w.grownBy w' (some g)
theorem own_empty (w : World) : (w.alloc (.cells #[] 3)).ownsRow w.heap.size 3 1 (.slice (some ⟨w.heap.size, 0, none⟩) 0 0) 0 [] :=
  ⟨rfl, .inr ⟨w.heap.size, 0, #[], rfl, Nat.le_refl _, heap_alloc_new w _, Nat.le_refl _, by unfold maxLen; omega, rfl, rfl⟩⟩
end Go.Proofs.Ytalalapjanckdaa
