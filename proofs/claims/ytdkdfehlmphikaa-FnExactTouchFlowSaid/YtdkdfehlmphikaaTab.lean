/- Tables of flows: entries as flat cells; TableValid of the program. No condition but lists of at most 2^20 entries. -/
import Derived.Test.YtdkdfehlmphikaaEntE
import Derived.Test.YtdkdfehlmphikaaSeen
namespace Go.Proofs.Ytdkdfehlmphikaa
open Go.RowKit
/-- An entry: its flow, to, last. -/
abbrev E7 := F5 × Int × Int
def e0 : E7 := ((0, 0, 0, 0, 0), 0, 0)
def eI (e : E7) : List Int := [e.1.1, e.1.2.1, e.1.2.2.1, e.1.2.2.2.1, e.1.2.2.2.2, e.2.1, e.2.2]
def eInts (es : List E7) : List Int := es.flatMap eI
def evv (e : E7) : Value := .agg #[.int .i64 e.1.1, .int .i64 e.1.2.1, .int .i64 e.1.2.2.1, .int .i64 e.1.2.2.2.1, .int .i64 e.1.2.2.2.2, .int .i64 e.2.1, .int .i64 e.2.2]
theorem eInts_len (es : List E7) : (eInts es).length = es.length * 7 := by
  induction es with
  | nil => rfl
  | cons e r ih => simp only [eInts, List.flatMap_cons, List.length_append, List.length_cons] at *; rw [ih]; simp [eI]; omega
theorem eInts_nil : eInts [] = [] := rfl
theorem eInts_app (a b : List E7) : eInts (a ++ b) = eInts a ++ eInts b := by simp [eInts]
theorem eInts_one (e : E7) : eInts [e] = eI e := by simp [eInts]
theorem eInts_at : ∀ (es : List E7) (k j : Nat), k < es.length → j < 7 → (eInts es)[k * 7 + j]? = (eI (es.getD k e0))[j]?
  | [], k, j, h, _ => by simp at h
  | x :: r, 0, j, _, hj => by
    have e : eInts (x :: r) = eI x ++ eInts r := rfl
    rw [e, Nat.zero_mul, Nat.zero_add, List.getElem?_append_left (by simpa [eI] using hj)]; rfl
  | x :: r, k + 1, j, h, hj => by
    have e : eInts (x :: r) = eI x ++ eInts r := rfl
    rw [e, List.getElem?_append_right (by simp [eI]; omega)]
    have : (k + 1) * 7 + j - (eI x).length = k * 7 + j := by simp [eI]; omega
    rw [this, eInts_at r k j (by simpa using h) hj]
    simp [List.getD_eq_getElem?_getD]
theorem eInts_get {es : List E7} {k : Nat} (h : k < es.length) : (eInts es).getD (k * 7) 0 = (es.getD k e0).1.1 ∧ (eInts es).getD (k * 7 + 1) 0 = (es.getD k e0).1.2.1 ∧ (eInts es).getD (k * 7 + 2) 0 = (es.getD k e0).1.2.2.1 ∧
    (eInts es).getD (k * 7 + 3) 0 = (es.getD k e0).1.2.2.2.1 ∧ (eInts es).getD (k * 7 + 4) 0 = (es.getD k e0).1.2.2.2.2 ∧ (eInts es).getD (k * 7 + 5) 0 = (es.getD k e0).2.1 ∧ (eInts es).getD (k * 7 + 6) 0 = (es.getD k e0).2.2 := by
  have a := fun j hj => eInts_at es k j h hj
  refine ⟨?_, ?_, ?_, ?_, ?_, ?_, ?_⟩
  · rw [List.getD_eq_getElem?_getD]; have := a 0 (by omega); rw [Nat.add_zero] at this; rw [this]; rfl
  all_goals rw [List.getD_eq_getElem?_getD, a _ (by omega)]; rfl
/-- What is read of a table's entries. -/
def Ents (w : World) (a : Option Addr) (es : List E7) : Prop := Ints w a (eInts es)
theorem Ents.below {w w' : World} {a : Option Addr} {es : List E7} (h : Ents w a es) (hb : Below w.heap.size w w') : Ents w' a es := Ints.below h hb
/-- The cells of one entry. -/
def EntAt (w : World) (b off : Nat) (e : E7) : Prop :=
  w.cell? ⟨b, off, none⟩ = some (.int .i64 e.1.1) ∧ w.cell? ⟨b, off + 1, none⟩ = some (.int .i64 e.1.2.1) ∧ w.cell? ⟨b, off + 2, none⟩ = some (.int .i64 e.1.2.2.1) ∧ w.cell? ⟨b, off + 3, none⟩ = some (.int .i64 e.1.2.2.2.1) ∧
  w.cell? ⟨b, off + 4, none⟩ = some (.int .i64 e.1.2.2.2.2) ∧ w.cell? ⟨b, off + 5, none⟩ = some (.int .i64 e.2.1) ∧ w.cell? ⟨b, off + 6, none⟩ = some (.int .i64 e.2.2)
theorem Ents.at {w : World} {a : Option Addr} {es : List E7} {n k : Nat} (h : Ents w a es) (hl : es.length = n) (hk : k < n) :
    ∃ b off, a = some ⟨b, off, none⟩ ∧ b < w.heap.size ∧ ∀ j, j < n → EntAt w b (off + j * 7) (es.getD j e0) := by
  have hl7 : (eInts es).length = n * 7 := by rw [eInts_len, hl]
  rcases h with h | ⟨b, off, ha, hb, hc⟩
  · rw [h] at hl7; simp at hl7; omega
  · refine ⟨b, off, ha, hb, fun j hj => ?_⟩
    obtain ⟨g0, g1, g2, g3, g4, g5, g6⟩ := eInts_get (es := es) (k := j) (by omega)
    have c := fun t (ht : t < 7) => hc (j * 7 + t) (by rw [hl7]; omega)
    refine ⟨?_, ?_, ?_, ?_, ?_, ?_, ?_⟩
    · rw [← g0]; exact hc (j * 7) (by rw [hl7]; omega)
    · rw [← g1, Nat.add_assoc]; exact c 1 (by omega)
    · rw [← g2, Nat.add_assoc]; exact c 2 (by omega)
    · rw [← g3, Nat.add_assoc]; exact c 3 (by omega)
    · rw [← g4, Nat.add_assoc]; exact c 4 (by omega)
    · rw [← g5, Nat.add_assoc]; exact c 5 (by omega)
    · rw [← g6, Nat.add_assoc]; exact c 6 (by omega)
def eOk (es : List E7) (k : Nat) : Bool :=
  fv (es.getD k e0).1 && !(decide ((es.getD k e0).1 ∈ (es.take k).map (·.1))) && inB (es.getD k e0).2.1 0 30 && inB (es.getD k e0).2.2 0 100000 && (decide (k = 0) || decide ((es.getD (k - 1) e0).2.2 ≤ (es.getD k e0).2.2))
/-- A table is valid. -/
def tv (sz st : Int) (es : List E7) : Bool := inB sz 1 12 && inB st 1 100000 && decide ((es.length : Int) ≤ sz) && (List.range es.length).all (eOk es)
theorem tv_not {sz st : Int} {es : List E7} {k : Nat} (hk : k < es.length) (h : eOk es k = false) : tv sz st es = false := by
  rw [← Bool.not_eq_true]
  intro h'
  simp only [tv, Bool.and_eq_true, List.all_eq_true, List.mem_range] at h'
  rw [h'.2 k hk] at h; cases h
theorem tv_of {sz st : Int} {es : List E7} (h : ∀ j, j < es.length → eOk es j = true) : tv sz st es = (inB sz 1 12 && inB st 1 100000 && decide ((es.length : Int) ≤ sz)) := by
  have : (List.range es.length).all (eOk es) = true := by
    simp only [List.all_eq_true, List.mem_range]; exact h
  rw [tv, this, Bool.and_true]
theorem take_flow {es : List E7} {k n : Nat} (hl : es.length = n) (hk : k < n) : (es.take (k + 1)).map (·.1) = (es.take k).map (·.1) ++ [(es.getD k e0).1] := by
  have : es[k]? = some (es.getD k e0) := by rw [List.getD_eq_getElem?_getD, List.getElem?_eq_getElem (by omega)]; rfl
  rw [List.take_add_one, this]; simp
theorem one7 (x0 x1 x2 x3 x4 x5 x6 : Int) : ∀ u ∈ [Value.int .i64 x0, .int .i64 x1, .int .i64 x2, .int .i64 x3, .int .i64 x4, .int .i64 x5, .int .i64 x6], u.oneCell' = true := by
  intro u hu
  simp only [List.mem_cons, List.not_mem_nil, or_false] at hu
  rcases hu with rfl | rfl | rfl | rfl | rfl | rfl | rfl <;> rfl
theorem q_isTime (t : Int) (w : World) : Calls Try.prog 64 #[.int .i64 t] w fun e w' => e = .returned (.bool (inB t 0 100000)) ∧ w' = w :=
  (c_isTime t w).mono fun _ _ ⟨h1, h2⟩ => ⟨h1, h2.symm⟩
end Go.Proofs.Ytdkdfehlmphikaa
