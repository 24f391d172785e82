/- The map of flows that were seen: read and written. No condition. -/
import Derived.Test.YtalalapjanckdaaFlo
import Derived.Maps.Views
namespace Go.Proofs.Ytalalapjanckdaa
open Go.RowKit
theorem keyLits_int (d : Nat) (n : Int) (h : (Lit.int .i64 n).wf = true) : Try.prog.keyLits (d + 1) 3 [.int .i64 n] = some [.int .i64 n] := by
  unfold Program.keyLits
  rw [Try.underlying3]
  simp [h]
theorem wf_small {n lo hi : Int} (h : inB n lo hi = true) (hl : 0 ≤ lo) (hh : hi ≤ 100000) : (Lit.int .i64 n).wf = true := by
  have := inB_true.1 h
  simp only [Lit.wf, Bool.and_eq_true, decide_eq_true_eq]
  exact ⟨by show -9223372036854775808 ≤ n; omega, by show n ≤ 9223372036854775807; omega⟩
theorem fv_parts {f : F5} (h : fv f = true) : inB f.1 0 255 = true ∧ inB f.2.1 0 999 = true ∧ inB f.2.2.1 0 255 = true ∧ inB f.2.2.2.1 0 999 = true ∧ inB f.2.2.2.2 1 2 = true := by
  simp only [fv, Bool.and_eq_true] at h
  exact ⟨h.1.1.1.1, h.1.1.2, h.1.1.1.2, h.1.2, h.2⟩
theorem flowCells : Try.prog.cellsOf 27 = 5 := by kernel_rfl
theorem intCells : Try.prog.cellsOf 3 = 1 := by kernel_rfl
theorem flowType : Try.prog.keyType 27 = true := by kernel_rfl
theorem typesMany : ∃ d, Try.prog.types.size + 1 = d + 1 + 1 := ⟨Try.prog.types.size - 1, by kernel_rfl⟩
/-- A valid flow is a key. -/
theorem key_of {f : F5} (h : fv f = true) : ∃ l, keyOf Try.prog 27 (fvv f) = some l := by
  obtain ⟨h1, h2, h3, h4, h5⟩ := fv_parts h
  have w1 := wf_small h1 (by omega) (by omega)
  have w2 := wf_small h2 (by omega) (by omega)
  have w3 := wf_small h3 (by omega) (by omega)
  have w4 := wf_small h4 (by omega) (by omega)
  have w5 := wf_small h5 (by omega) (by omega)
  have hf : (fvv f).formed Try.prog 27 = true := by simp [fvv, Value.formed, Try.underlying27, flowCells]
  obtain ⟨d, hd⟩ := typesMany
  have hk : Try.prog.keyLits (d + 1 + 1) 27 (fvv f).cells.toList = some [.int .i64 f.1, .int .i64 f.2.1, .int .i64 f.2.2.1, .int .i64 f.2.2.2.1, .int .i64 f.2.2.2.2] := by
    unfold Program.keyLits
    rw [Try.underlying27]
    simp [fvv, Value.cells, flowCells, intCells, keyLits_int, w1, w2, w3, w4, w5]
  unfold keyOf
  rw [Try.underlying27]
  simp only [flowType, hf, hd, hk]
  exact ⟨_, rfl⟩
theorem fvv_inj {f g : F5} (h : fvv f = fvv g) : f = g := by
  obtain ⟨a, b, c, d, k⟩ := f
  obtain ⟨a', b', c', d', k'⟩ := g
  simp [fvv] at h
  obtain ⟨rfl, rfl, rfl, rfl, rfl⟩ := h
  rfl
/-- Block b is the map of the flows fs that were seen. -/
def Seen (w : World) (b n : Nat) (fs : List F5) : Prop :=
  ∃ D : DataW Unit, w.ownsMap Try.prog 27 (plainElem Try.prog 4) b n D ∧ Go.Maps.IsMap D ∧
    ∀ f l, fv f = true → keyOf Try.prog 27 (fvv f) = some l → D.atKey l (.lit (.bool false)) = .lit (.bool (decide (f ∈ fs)))
theorem Seen.made (w : World) : Seen (w.alloc (.map #[] 0)) w.heap.size 0 [] :=
  ⟨_, World.ownsMap_made w _ _ _, Go.Maps.isMap_empty, fun f l _ _ => by simp [DataW.atKey]⟩
theorem Seen.kept {w w' : World} {row : Option Nat} {b n : Nat} {fs : List F5} (h : Seen w b n fs) (hg : w.grownBy w' row) (hne : some b ≠ row) : Seen w' b n fs := by
  obtain ⟨D, h1, h2, h3⟩ := h
  exact ⟨D, h1.kept hg hne, h2, h3⟩
theorem Seen.lt {w : World} {b n : Nat} {fs : List F5} (h : Seen w b n fs) : b < w.heap.size := by
  obtain ⟨D, h1, _⟩ := h
  exact h1.lt
theorem Seen.below {w w' : World} {b n : Nat} {fs : List F5} (h : Seen w b n fs) (hb : Below w.heap.size w w') : Seen w' b n fs := h.kept (below_grown hb) (by simp)
theorem Seen.look {w : World} {b n : Nat} {fs : List F5} (h : Seen w b n fs) {f : F5} (hf : fv f = true) :
    (Instr.lookup 87 (.map (some b)) (fvv f) false).run Try.prog w = .ok (.bool (decide (f ∈ fs))) w := by
  obtain ⟨D, h1, _, h3⟩ := h
  obtain ⟨l, hl⟩ := key_of hf
  have hz : (zeroValue 4).run Try.prog w = .ok (.bool false) w := by kernel_rfl
  obtain ⟨v, ps, hrun, hv⟩ := h1.lookup flowKeyed Try.underlying87 hz (plainElem_bool Try.underlying4 false) hl
  rw [h3 f l hf hl] at hv
  have : v = .bool (decide (f ∈ fs)) := by
    cases v <;> simp [plainElem, Try.underlying4] at hv
    rw [hv.1]
  rw [this] at hrun
  exact hrun
theorem wpl_seen (w : World) {ops : Array Oper} {rest : List Oper} {o : Oper} {a : Act} {Q : Exit → Act → World → Prop}
    (hg : o.guard = none) (m x v : Operand) (hop : o.op = Op.mapUpdate 87 m x v) (b n : Nat) (fs : List F5) (hm : a.eval m = .map (some b)) (hown : Seen w b n fs) (hn : n < maxLen)
    (f : F5) (hf : fv f = true) (hx : a.eval x = fvv f) (hv : a.eval v = .bool true)
    (hK : ∀ w', Seen w' b (n + 1) (fs ++ [f]) → w.grownBy w' (some b) → wpList Try.prog ops Q rest (a.put o.dst undef) w') :
    wpList Try.prog ops Q (o :: rest) a w := by
  obtain ⟨D, h1, h2, h3⟩ := hown
  obtain ⟨l, hl⟩ := key_of hf
  refine wpList_mapUpdate_own w hg m x v _ hop 27 4 flowKeyed Try.underlying87 (plainElem Try.prog 4) b n D hm h1 hn (fvv f) (.bool true) l hx hv hl (.lit (.bool true)) [] (plainElem_bool Try.underlying4 true) ?_
  intro w' r1 r2
  refine hK w' ⟨_, r1, h2.put _ _, fun g k hg' hk => ?_⟩ r2
  by_cases e : k = l
  · subst e
    have : g = f := fvv_inj (flowKeyed.inj hk hl)
    subst this
    rw [Go.Maps.atKey_put_same h2 (flowKeyed.key hl)]
    simp
  · rw [Go.Maps.atKey_put_other e, h3 g k hg' hk]
    have : g ≠ f := by
      rintro rfl
      rw [hl] at hk
      injection hk with hk
      exact e hk.symm
    simp [this]
end Go.Proofs.Ytalalapjanckdaa
