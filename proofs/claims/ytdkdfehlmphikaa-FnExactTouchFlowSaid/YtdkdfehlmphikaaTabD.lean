/- slices.DeleteFunc at entries, with whatever test, on a row of one's own. No condition but lists of at most 2^20 entries. -/
import Derived.Test.YtdkdfehlmphikaaTabF
namespace Go.Proofs.Ytdkdfehlmphikaa
open Go.RowKit
theorem set_cons7 (e : E7) (L : List Int) (m j : Nat) (v : Int) : (eI e ++ L).set ((m + 1) * 7 + j) v = eI e ++ L.set (m * 7 + j) v := by
  rw [List.set_append_right _ _ (by show 7 ≤ _; omega)]
  congr 2
  show _ - 7 = _; omega
theorem eInts_set : ∀ (ds : List E7) (i : Nat) (e : E7), i < ds.length → eInts (ds.set i e) =
    (((((((eInts ds).set (i * 7) e.1.1).set (i * 7 + 1) e.1.2.1).set (i * 7 + 2) e.1.2.2.1).set (i * 7 + 3) e.1.2.2.2.1).set (i * 7 + 4) e.1.2.2.2.2).set (i * 7 + 5) e.2.1).set (i * 7 + 6) e.2.2
  | [], i, e, h => by simp at h
  | x :: r, 0, e, _ => by
    have a : eInts (x :: r) = eI x ++ eInts r := rfl
    have b : eInts (e :: r) = eI e ++ eInts r := rfl
    rw [List.set_cons_zero, a, b]
    simp [eI]
  | x :: r, i + 1, e, h => by
    have a : eInts (x :: r) = eI x ++ eInts r := rfl
    have b : eInts (x :: r.set i e) = eI x ++ eInts (r.set i e) := rfl
    rw [List.set_cons_succ, b, eInts_set r i e (by simpa using h), a]
    have c := set_cons7 x
    have c0 := fun L m v => c L m 0 v
    simp only [Nat.add_zero] at c0
    rw [c0, c, c, c, c, c, c]
/-- The cells of entries. -/
abbrev eCells (es : List E7) : List Value := (eInts es).map (Value.int .i64)
/-- A row of the call's own holds these entries. -/
abbrev EntRow (w : World) (base : Nat) (a : Option Addr) (n cap : Nat) (es : List E7) : Prop := w.ownsRow base 69 7 (.slice a n cap) n (eCells es)
theorem EntRow.ents {w : World} {base : Nat} {a : Option Addr} {n cap : Nat} {es : List E7} (h : EntRow w base a n cap es) : Ents w a es := Vals.ints (row_vals h)
theorem EntRow.len {w : World} {base : Nat} {a : Option Addr} {n cap : Nat} {es : List E7} (h : EntRow w base a n cap es) : es.length = n := by
  have := row_len h
  rw [List.length_map, eInts_len] at this
  omega
theorem EntRow.put {w : World} {base g n cap i : Nat} {es : List E7} (h : EntRow w base (some ⟨g, 0, none⟩) n cap es) (hi : i < n) (e : E7) :
    EntRow (((((((w.setCell ⟨g, i * 7, none⟩ (.int .i64 e.1.1)).setCell ⟨g, i * 7 + 1, none⟩ (.int .i64 e.1.2.1)).setCell ⟨g, i * 7 + 2, none⟩ (.int .i64 e.1.2.2.1)).setCell ⟨g, i * 7 + 3, none⟩ (.int .i64 e.1.2.2.2.1)).setCell ⟨g, i * 7 + 4, none⟩ (.int .i64 e.1.2.2.2.2)).setCell ⟨g, i * 7 + 5, none⟩ (.int .i64 e.2.1)).setCell ⟨g, i * 7 + 6, none⟩ (.int .i64 e.2.2)) base (some ⟨g, 0, none⟩) n cap (es.set i e) ∧
    w.grownBy (((((((w.setCell ⟨g, i * 7, none⟩ (.int .i64 e.1.1)).setCell ⟨g, i * 7 + 1, none⟩ (.int .i64 e.1.2.1)).setCell ⟨g, i * 7 + 2, none⟩ (.int .i64 e.1.2.2.1)).setCell ⟨g, i * 7 + 3, none⟩ (.int .i64 e.1.2.2.2.1)).setCell ⟨g, i * 7 + 4, none⟩ (.int .i64 e.1.2.2.2.2)).setCell ⟨g, i * 7 + 5, none⟩ (.int .i64 e.2.1)).setCell ⟨g, i * 7 + 6, none⟩ (.int .i64 e.2.2)) (some g) := by
  have hl := h.len
  have s0 := h.stored (i * 7) (.int .i64 e.1.1)
  have s1 := s0.1.stored (i * 7 + 1) (.int .i64 e.1.2.1)
  have s2 := s1.1.stored (i * 7 + 2) (.int .i64 e.1.2.2.1)
  have s3 := s2.1.stored (i * 7 + 3) (.int .i64 e.1.2.2.2.1)
  have s4 := s3.1.stored (i * 7 + 4) (.int .i64 e.1.2.2.2.2)
  have s5 := s4.1.stored (i * 7 + 5) (.int .i64 e.2.1)
  have s6 := s5.1.stored (i * 7 + 6) (.int .i64 e.2.2)
  refine ⟨?_, grownBy_tr s0.2 (grownBy_tr s1.2 (grownBy_tr s2.2 (grownBy_tr s3.2 (grownBy_tr s4.2 (grownBy_tr s5.2 s6.2)))))⟩
  have e1 : eCells (es.set i e) = (((((((eCells es).set (i * 7) (.int .i64 e.1.1)).set (i * 7 + 1) (.int .i64 e.1.2.1)).set (i * 7 + 2) (.int .i64 e.1.2.2.1)).set (i * 7 + 3) (.int .i64 e.1.2.2.2.1)).set (i * 7 + 4) (.int .i64 e.1.2.2.2.2)).set (i * 7 + 5) (.int .i64 e.2.1)).set (i * 7 + 6) (.int .i64 e.2.2) := by
    unfold eCells
    rw [eInts_set es i e (by omega)]
    simp only [List.map_set]
  unfold EntRow
  rw [e1]
  exact s6.1
theorem eCells_at {es : List E7} {k j : Nat} (hk : k < es.length) (hj : j < 7) : (eCells es)[k * 7 + j]? = ((eI (es.getD k e0))[j]?).map (Value.int .i64) := by
  rw [List.getElem?_map, eInts_at es k j hk hj]
/-- The cells of a row's entry, and that none is frozen. -/
theorem EntRow.cells {w : World} {base g n cap k : Nat} {es : List E7} (h : EntRow w base (some ⟨g, 0, none⟩) n cap es) (hk : k < n) :
    (w.cell? ⟨g, k * 7, none⟩ = some (.int .i64 (es.getD k e0).1.1) ∧ w.cell? ⟨g, k * 7 + 1, none⟩ = some (.int .i64 (es.getD k e0).1.2.1) ∧ w.cell? ⟨g, k * 7 + 2, none⟩ = some (.int .i64 (es.getD k e0).1.2.2.1) ∧ w.cell? ⟨g, k * 7 + 3, none⟩ = some (.int .i64 (es.getD k e0).1.2.2.2.1) ∧
     w.cell? ⟨g, k * 7 + 4, none⟩ = some (.int .i64 (es.getD k e0).1.2.2.2.2) ∧ w.cell? ⟨g, k * 7 + 5, none⟩ = some (.int .i64 (es.getD k e0).2.1) ∧ w.cell? ⟨g, k * 7 + 6, none⟩ = some (.int .i64 (es.getD k e0).2.2)) ∧ ∀ i, w.frozen? ⟨g, i, none⟩ = false := by
  have hl := h.len
  have hn := row_len h
  have c := fun j (hj : j < 7) => (h.cellAt (k * 7 + j) (by omega)).trans (eCells_at (es := es) (k := k) (by omega) hj)
  exact ⟨⟨c 0 (by omega), c 1 (by omega), c 2 (by omega), c 3 (by omega), c 4 (by omega), c 5 (by omega), c 6 (by omega)⟩, fun i => h.frozenAt i⟩
theorem ixP_cases (p : E7 → Bool) (es : List E7) : (ixP p es = -1 ∧ ∀ j, j < es.length → p (es.getD j e0) = false) ∨ ∃ k : Nat, ixP p es = (k : Int) ∧ k < es.length ∧ p (es.getD k e0) = true ∧ ∀ j, j < k → p (es.getD j e0) = false := by
  unfold ixP
  cases h : es.findIdx? p with
  | none =>
    left
    refine ⟨rfl, fun j hj => ?_⟩
    rw [List.findIdx?_eq_none_iff] at h
    rw [List.getD_eq_getElem?_getD, List.getElem?_eq_getElem hj]
    exact h _ (List.getElem_mem hj)
  | some k =>
    right
    rw [List.findIdx?_eq_some_iff_getElem] at h
    obtain ⟨hk, h1, h2⟩ := h
    refine ⟨k, rfl, hk, ?_, fun j hj => ?_⟩
    · rw [List.getD_eq_getElem?_getD, List.getElem?_eq_getElem hk]; exact h1
    · rw [List.getD_eq_getElem?_getD, List.getElem?_eq_getElem (by omega)]
      simpa using h2 j hj
theorem run_clearE (w : World) (ty : TypeId) (b o n c : Nat) (hn : 0 < n) (hc : ∀ j, j < n * 7 → (w.cell? ⟨b, o + j, none⟩).isSome = true) (hf : ∀ j, j < n * 7 → w.frozen? ⟨b, o + j, none⟩ = false) :
    (Builtin.clear_ #[28] ty #[.slice (some ⟨b, o, none⟩) n c]).run Try.prog w = .ok (.tuple #[]) (w.setCells b o (List.replicate (n * 7) (.int .i64 0))) := by
  have hz : ∀ w, (zeroValue 69).run Try.prog w = .ok (.agg #[.int .i64 0, .int .i64 0, .int .i64 0, .int .i64 0, .int .i64 0, .int .i64 0, .int .i64 0]) w := fun w => by kernel_rfl
  have hzc : (Builtin.zeroCells (Value.agg #[.int .i64 0, .int .i64 0, .int .i64 0, .int .i64 0, .int .i64 0, .int .i64 0, .int .i64 0]).cells n).toList = List.replicate (n * 7) (.int .i64 0) := by
    simp only [Builtin.zeroCells, Value.cells]
    apply List.ext_getElem
    · simp
    · intro i h1 h2
      simp
      have : i % 7 < 7 := Nat.mod_lt _ (by omega)
      generalize i % 7 = m at this
      match m, this with
      | 0, _ => rfl
      | 1, _ => rfl
      | 2, _ => rfl
      | 3, _ => rfl
      | 4, _ => rfl
      | 5, _ => rfl
      | 6, _ => rfl
  have hst := run_storeCells_cells (P := Try.prog) b o (List.replicate (n * 7) (.int .i64 0)) 0 w (by simpa using hc) (by simpa using hf) (by intro v hv'; rw [List.eq_of_mem_replicate hv']; rfl)
  simp only [Nat.add_zero] at hst
  obtain ⟨m, rfl⟩ : ∃ m, n = m + 1 := ⟨n - 1, by omega⟩
  simp [Builtin.clear_, run_underlying Try.underlying28, hz, hzc, hst]
theorem gb_setCells (w : World) (g : Nat) : ∀ (vs : List Value) (o : Nat) (w' : World), w.grownBy w' (some g) → w.grownBy (w'.setCells g o vs) (some g)
  | [], _, _, h => h
  | v :: r, o, w', h => gb_setCells w g r (o + 1) _ (grownBy_tr h (gb_setp w' ⟨g, o, none⟩ v))
/-- What the walk is told of entries that came in. -/
def IsEnts (w : World) (a : Option Addr) (n cap : Nat) (es : List E7) : Prop := es.length = n ∧ n ≤ cap ∧ cap ≤ maxLen ∧ (a = none → n = 0 ∧ cap = 0) ∧ Ents w a es
end Go.Proofs.Ytdkdfehlmphikaa
