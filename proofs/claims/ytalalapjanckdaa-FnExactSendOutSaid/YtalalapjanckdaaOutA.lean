/- Outlets: flows as flat cells; when an outlet is valid. No condition but lists of at most 2^20 flows. -/
import Derived.Test.YtalalapjanckdaaFlwE
import Derived.Test.YtalalapjanckdaaSeen
import Derived.Test.YtalalapjanckdaaFeq
namespace Go.Proofs.Ytalalapjanckdaa
open Go.RowKit
def z5 : F5 := (0, 0, 0, 0, 0)
def fInts (fs : List F5) : List Int := fs.flatMap fI
theorem fInts_len (fs : List F5) : (fInts fs).length = fs.length * 5 := by
  induction fs with
  | nil => rfl
  | cons e r ih => simp only [fInts, List.flatMap_cons, List.length_append, List.length_cons] at *; rw [ih]; simp [fI]; omega
theorem fInts_app (a b : List F5) : fInts (a ++ b) = fInts a ++ fInts b := by simp [fInts]
theorem fInts_one (e : F5) : fInts [e] = fI e := by simp [fInts]
theorem fInts_at : ∀ (fs : List F5) (k j : Nat), k < fs.length → j < 5 → (fInts fs)[k * 5 + j]? = (fI (fs.getD k z5))[j]?
  | [], k, j, h, _ => by simp at h
  | x :: r, 0, j, _, hj => by
    have e : fInts (x :: r) = fI x ++ fInts r := rfl
    rw [e, Nat.zero_mul, Nat.zero_add, List.getElem?_append_left (by simpa [fI] using hj)]; rfl
  | x :: r, k + 1, j, h, hj => by
    have e : fInts (x :: r) = fI x ++ fInts r := rfl
    rw [e, List.getElem?_append_right (by simp [fI]; omega)]
    have : (k + 1) * 5 + j - (fI x).length = k * 5 + j := by simp [fI]; omega
    rw [this, fInts_at r k j (by simpa using h) hj]
    simp [List.getD_eq_getElem?_getD]
theorem fInts_get {fs : List F5} {k : Nat} (h : k < fs.length) : (fInts fs).getD (k * 5) 0 = (fs.getD k z5).1 ∧ (fInts fs).getD (k * 5 + 1) 0 = (fs.getD k z5).2.1 ∧ (fInts fs).getD (k * 5 + 2) 0 = (fs.getD k z5).2.2.1 ∧
    (fInts fs).getD (k * 5 + 3) 0 = (fs.getD k z5).2.2.2.1 ∧ (fInts fs).getD (k * 5 + 4) 0 = (fs.getD k z5).2.2.2.2 := by
  have a := fun j hj => fInts_at fs k j h hj
  refine ⟨?_, ?_, ?_, ?_, ?_⟩
  · rw [List.getD_eq_getElem?_getD]; have := a 0 (by omega); rw [Nat.add_zero] at this; rw [this]; rfl
  all_goals rw [List.getD_eq_getElem?_getD, a _ (by omega)]; rfl
/-- What is read of a list of flows. -/
def Flws (w : World) (a : Option Addr) (fs : List F5) : Prop := Ints w a (fInts fs)
theorem Flws.below {w w' : World} {a : Option Addr} {fs : List F5} (h : Flws w a fs) (hb : Below w.heap.size w w') : Flws w' a fs := Ints.below h hb
/-- The cells of one flow. -/
def FlwAt (w : World) (b off : Nat) (e : F5) : Prop :=
  w.cell? ⟨b, off, none⟩ = some (.int .i64 e.1) ∧ w.cell? ⟨b, off + 1, none⟩ = some (.int .i64 e.2.1) ∧ w.cell? ⟨b, off + 2, none⟩ = some (.int .i64 e.2.2.1) ∧ w.cell? ⟨b, off + 3, none⟩ = some (.int .i64 e.2.2.2.1) ∧ w.cell? ⟨b, off + 4, none⟩ = some (.int .i64 e.2.2.2.2)
theorem Flws.at {w : World} {a : Option Addr} {fs : List F5} {n k : Nat} (h : Flws w a fs) (hl : fs.length = n) (hk : k < n) :
    ∃ b off, a = some ⟨b, off, none⟩ ∧ b < w.heap.size ∧ ∀ j, j < n → FlwAt w b (off + j * 5) (fs.getD j z5) := by
  have hl5 : (fInts fs).length = n * 5 := by rw [fInts_len, hl]
  rcases h with h | ⟨b, off, ha, hb, hc⟩
  · rw [h] at hl5; simp at hl5; omega
  · refine ⟨b, off, ha, hb, fun j hj => ?_⟩
    obtain ⟨g0, g1, g2, g3, g4⟩ := fInts_get (fs := fs) (k := j) (by omega)
    have c := fun t (ht : t < 5) => hc (j * 5 + t) (by rw [hl5]; omega)
    refine ⟨?_, ?_, ?_, ?_, ?_⟩
    · rw [← g0]; exact hc (j * 5) (by rw [hl5]; omega)
    · rw [← g1, Nat.add_assoc]; exact c 1 (by omega)
    · rw [← g2, Nat.add_assoc]; exact c 2 (by omega)
    · rw [← g3, Nat.add_assoc]; exact c 3 (by omega)
    · rw [← g4, Nat.add_assoc]; exact c 4 (by omega)
/-- A slot is free, or its flow is valid and stands in none ahead. -/
def oOk (fs : List F5) (k : Nat) : Bool := decide (fs.getD k z5 = z5) || (fv (fs.getD k z5) && !(decide (fs.getD k z5 ∈ fs.take k)))
/-- An outlet is valid. -/
def ov (o r : Int) (fs : List F5) : Bool := inB o 0 255 && inB (fs.length : Int) 1 8 && inB r 0 (999 - (fs.length : Int) + 1) && (List.range fs.length).all (oOk fs)
theorem ov_not {o r : Int} {fs : List F5} {k : Nat} (hk : k < fs.length) (h : oOk fs k = false) : ov o r fs = false := by
  rw [← Bool.not_eq_true]
  intro h'
  simp only [ov, Bool.and_eq_true, List.all_eq_true, List.mem_range] at h'
  rw [h'.2 k hk] at h; cases h
theorem ov_of {o r : Int} {fs : List F5} (h : ∀ j, j < fs.length → oOk fs j = true) : ov o r fs = (inB o 0 255 && inB (fs.length : Int) 1 8 && inB r 0 (999 - (fs.length : Int) + 1)) := by
  have : (List.range fs.length).all (oOk fs) = true := by
    simp only [List.all_eq_true, List.mem_range]; exact h
  rw [ov, this, Bool.and_true]
theorem ov_parts {o r : Int} {fs : List F5} (h : ov o r fs = true) : inB o 0 255 = true ∧ inB (fs.length : Int) 1 8 = true ∧ inB r 0 (999 - (fs.length : Int) + 1) = true ∧ ∀ k, k < fs.length → oOk fs k = true := by
  simp only [ov, Bool.and_eq_true, List.all_eq_true, List.mem_range] at h
  exact ⟨h.1.1.1, h.1.1.2, h.1.2, h.2⟩
theorem take_fl {fs : List F5} {k n : Nat} (hl : fs.length = n) (hk : k < n) : fs.take (k + 1) = fs.take k ++ [fs.getD k z5] := by
  have : fs[k]? = some (fs.getD k z5) := by rw [List.getD_eq_getElem?_getD, List.getElem?_eq_getElem (by omega)]; rfl
  rw [List.take_add_one, this]; rfl
theorem fv_zero : fv z5 = false := by decide
theorem fv_ne {f : F5} (h : fv f = true) : f ≠ z5 := by rintro rfl; rw [fv_zero] at h; cases h
/-- The flows that stand in slots. -/
def busy (fs : List F5) : List F5 := fs.filter fun f => !decide (f = z5)
theorem busy_mem {fs : List F5} {f : F5} (h : f ≠ z5) : f ∈ busy fs ↔ f ∈ fs := by
  unfold busy
  rw [List.mem_filter]
  simp [h]
theorem busy_skip {fs : List F5} {k n : Nat} (hl : fs.length = n) (hk : k < n) (h : fs.getD k z5 = z5) : busy (fs.take (k + 1)) = busy (fs.take k) := by
  rw [take_fl hl hk, busy, List.filter_append, h]
  simp [busy]
theorem busy_more {fs : List F5} {k n : Nat} (hl : fs.length = n) (hk : k < n) (h : fs.getD k z5 ≠ z5) : busy (fs.take (k + 1)) = busy (fs.take k) ++ [fs.getD k z5] := by
  rw [take_fl hl hk, busy, List.filter_append]
  simp [-List.getD_eq_getElem?_getD, busy, h]
/-- The cells of flows. -/
abbrev fCells (fs : List F5) : List Value := (fInts fs).map (Value.int .i64)
/-- A row of the call's own holds these flows. -/
abbrev FlwRow (w : World) (base : Nat) (a : Option Addr) (n cap : Nat) (fs : List F5) : Prop := w.ownsRow base 27 5 (.slice a n cap) n (fCells fs)
theorem FlwRow.flws {w : World} {base : Nat} {a : Option Addr} {n cap : Nat} {fs : List F5} (h : FlwRow w base a n cap fs) : Flws w a fs := Vals.ints (row_vals h)
theorem fCells_len (fs : List F5) : (fCells fs).length = fs.length * 5 := by rw [List.length_map, fInts_len]
theorem FlwRow.len {w : World} {base : Nat} {a : Option Addr} {n cap : Nat} {fs : List F5} (h : FlwRow w base a n cap fs) : fs.length = n := by
  have := row_len h
  rw [fCells_len] at this
  omega
theorem set_cons5 (e : F5) (L : List Int) (m j : Nat) (v : Int) : (fI e ++ L).set ((m + 1) * 5 + j) v = fI e ++ L.set (m * 5 + j) v := by
  rw [List.set_append_right _ _ (by show 5 ≤ _; omega)]
  congr 2
  show _ - 5 = _; omega
theorem fInts_set : ∀ (ds : List F5) (i : Nat) (e : F5), i < ds.length → fInts (ds.set i e) =
    (((((fInts ds).set (i * 5) e.1).set (i * 5 + 1) e.2.1).set (i * 5 + 2) e.2.2.1).set (i * 5 + 3) e.2.2.2.1).set (i * 5 + 4) e.2.2.2.2
  | [], i, e, h => by simp at h
  | x :: r, 0, e, _ => by
    have a : fInts (x :: r) = fI x ++ fInts r := rfl
    have b : fInts (e :: r) = fI e ++ fInts r := rfl
    rw [List.set_cons_zero, a, b]
    simp [fI]
  | x :: r, i + 1, e, h => by
    have a : fInts (x :: r) = fI x ++ fInts r := rfl
    have b : fInts (x :: r.set i e) = fI x ++ fInts (r.set i e) := rfl
    rw [List.set_cons_succ, b, fInts_set r i e (by simpa using h), a]
    have c := set_cons5 x
    have c0 := fun L m v => c L m 0 v
    simp only [Nat.add_zero] at c0
    rw [c0, c, c, c, c]
theorem FlwRow.put {w : World} {base g n cap i : Nat} {fs : List F5} (h : FlwRow w base (some ⟨g, 0, none⟩) n cap fs) (hi : i < n) (e : F5) :
    FlwRow (((((w.setCell ⟨g, i * 5, none⟩ (.int .i64 e.1)).setCell ⟨g, i * 5 + 1, none⟩ (.int .i64 e.2.1)).setCell ⟨g, i * 5 + 2, none⟩ (.int .i64 e.2.2.1)).setCell ⟨g, i * 5 + 3, none⟩ (.int .i64 e.2.2.2.1)).setCell ⟨g, i * 5 + 4, none⟩ (.int .i64 e.2.2.2.2)) base (some ⟨g, 0, none⟩) n cap (fs.set i e) ∧
    w.grownBy (((((w.setCell ⟨g, i * 5, none⟩ (.int .i64 e.1)).setCell ⟨g, i * 5 + 1, none⟩ (.int .i64 e.2.1)).setCell ⟨g, i * 5 + 2, none⟩ (.int .i64 e.2.2.1)).setCell ⟨g, i * 5 + 3, none⟩ (.int .i64 e.2.2.2.1)).setCell ⟨g, i * 5 + 4, none⟩ (.int .i64 e.2.2.2.2)) (some g) := by
  have hl := h.len
  have s0 := h.stored (i * 5) (.int .i64 e.1)
  have s1 := s0.1.stored (i * 5 + 1) (.int .i64 e.2.1)
  have s2 := s1.1.stored (i * 5 + 2) (.int .i64 e.2.2.1)
  have s3 := s2.1.stored (i * 5 + 3) (.int .i64 e.2.2.2.1)
  have s4 := s3.1.stored (i * 5 + 4) (.int .i64 e.2.2.2.2)
  refine ⟨?_, grownBy_tr s0.2 (grownBy_tr s1.2 (grownBy_tr s2.2 (grownBy_tr s3.2 s4.2)))⟩
  have e1 : fCells (fs.set i e) = (((((fCells fs).set (i * 5) (.int .i64 e.1)).set (i * 5 + 1) (.int .i64 e.2.1)).set (i * 5 + 2) (.int .i64 e.2.2.1)).set (i * 5 + 3) (.int .i64 e.2.2.2.1)).set (i * 5 + 4) (.int .i64 e.2.2.2.2) := by
    unfold fCells
    rw [fInts_set fs i e (by omega)]
    simp only [List.map_set]
  unfold FlwRow
  rw [e1]
  exact s4.1
theorem fCells_at {fs : List F5} {k j : Nat} (hk : k < fs.length) (hj : j < 5) : (fCells fs)[k * 5 + j]? = ((fI (fs.getD k z5))[j]?).map (Value.int .i64) := by
  rw [List.getElem?_map, fInts_at fs k j hk hj]
/-- The cells of a row's flow, and that none is frozen. -/
theorem FlwRow.cells {w : World} {base g n cap k : Nat} {fs : List F5} (h : FlwRow w base (some ⟨g, 0, none⟩) n cap fs) (hk : k < n) :
    (w.cell? ⟨g, k * 5, none⟩ = some (.int .i64 (fs.getD k z5).1) ∧ w.cell? ⟨g, k * 5 + 1, none⟩ = some (.int .i64 (fs.getD k z5).2.1) ∧ w.cell? ⟨g, k * 5 + 2, none⟩ = some (.int .i64 (fs.getD k z5).2.2.1) ∧ w.cell? ⟨g, k * 5 + 3, none⟩ = some (.int .i64 (fs.getD k z5).2.2.2.1) ∧
     w.cell? ⟨g, k * 5 + 4, none⟩ = some (.int .i64 (fs.getD k z5).2.2.2.2)) ∧ ∀ i, w.frozen? ⟨g, i, none⟩ = false := by
  have hl := h.len
  have hn := row_len h
  have c := fun j (hj : j < 5) => (h.cellAt (k * 5 + j) (by omega)).trans (fCells_at (fs := fs) (k := k) (by omega) hj)
  exact ⟨⟨c 0 (by omega), c 1 (by omega), c 2 (by omega), c 3 (by omega), c 4 (by omega)⟩, fun i => h.frozenAt i⟩
end Go.Proofs.Ytalalapjanckdaa
