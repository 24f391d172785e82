/- Events as flat cells; what a walk is told of events that came in. No condition but lists of at most 2^20 events. -/
import Derived.Test.YtdkdfehlmphikaaMB
import Derived.Test.YtdkdfehlmphikaaEvtE
import Derived.Test.YtdkdfehlmphikaaPru
namespace Go.Proofs.Ytdkdfehlmphikaa
open Go.RowKit
def vI (v : V6) : List Int := [v.1, v.2.1, v.2.2.1, v.2.2.2.1, v.2.2.2.2.1, v.2.2.2.2.2]
def vInts (vs : List V6) : List Int := vs.flatMap vI
abbrev vCells (vs : List V6) : List Value := (vInts vs).map (Value.int .i64)
def vvv (v : V6) : Value := .agg #[.int .i64 v.1, .int .i64 v.2.1, .int .i64 v.2.2.1, .int .i64 v.2.2.2.1, .int .i64 v.2.2.2.2.1, .int .i64 v.2.2.2.2.2]
theorem vInts_len (vs : List V6) : (vInts vs).length = vs.length * 6 := by
  induction vs with
  | nil => rfl
  | cons e r ih => simp only [vInts, List.flatMap_cons, List.length_append, List.length_cons] at *; rw [ih]; simp [vI]; omega
theorem vInts_app (a b : List V6) : vInts (a ++ b) = vInts a ++ vInts b := by simp [vInts]
theorem vInts_one (e : V6) : vInts [e] = vI e := by simp [vInts]
theorem vInts_at : ∀ (vs : List V6) (k j : Nat), k < vs.length → j < 6 → (vInts vs)[k * 6 + j]? = (vI (vs.getD k v0))[j]?
  | [], k, j, h, _ => by simp at h
  | x :: r, 0, j, _, hj => by
    have e : vInts (x :: r) = vI x ++ vInts r := rfl
    rw [e, Nat.zero_mul, Nat.zero_add, List.getElem?_append_left (by simpa [vI] using hj)]; rfl
  | x :: r, k + 1, j, h, hj => by
    have e : vInts (x :: r) = vI x ++ vInts r := rfl
    rw [e, List.getElem?_append_right (by simp [vI]; omega)]
    have : (k + 1) * 6 + j - (vI x).length = k * 6 + j := by simp [vI]; omega
    rw [this, vInts_at r k j (by simpa using h) hj]
    simp [List.getD_eq_getElem?_getD]
theorem vInts_get {vs : List V6} {k : Nat} (h : k < vs.length) : (vInts vs).getD (k * 6) 0 = (vs.getD k v0).1 ∧ (vInts vs).getD (k * 6 + 1) 0 = (vs.getD k v0).2.1 ∧ (vInts vs).getD (k * 6 + 2) 0 = (vs.getD k v0).2.2.1 ∧
    (vInts vs).getD (k * 6 + 3) 0 = (vs.getD k v0).2.2.2.1 ∧ (vInts vs).getD (k * 6 + 4) 0 = (vs.getD k v0).2.2.2.2.1 ∧ (vInts vs).getD (k * 6 + 5) 0 = (vs.getD k v0).2.2.2.2.2 := by
  have a := fun j hj => vInts_at vs k j h hj
  refine ⟨?_, ?_, ?_, ?_, ?_, ?_⟩
  · rw [List.getD_eq_getElem?_getD]; have := a 0 (by omega); rw [Nat.add_zero] at this; rw [this]; rfl
  all_goals rw [List.getD_eq_getElem?_getD, a _ (by omega)]; rfl
/-- What is read of events. -/
def Evs (w : World) (a : Option Addr) (vs : List V6) : Prop := Ints w a (vInts vs)
theorem Evs.below {w w' : World} {a : Option Addr} {vs : List V6} (h : Evs w a vs) (hb : Below w.heap.size w w') : Evs w' a vs := Ints.below h hb
/-- The cells of one event. -/
def EvAt (w : World) (b off : Nat) (e : V6) : Prop :=
  w.cell? ⟨b, off, none⟩ = some (.int .i64 e.1) ∧ w.cell? ⟨b, off + 1, none⟩ = some (.int .i64 e.2.1) ∧ w.cell? ⟨b, off + 2, none⟩ = some (.int .i64 e.2.2.1) ∧ w.cell? ⟨b, off + 3, none⟩ = some (.int .i64 e.2.2.2.1) ∧
  w.cell? ⟨b, off + 4, none⟩ = some (.int .i64 e.2.2.2.2.1) ∧ w.cell? ⟨b, off + 5, none⟩ = some (.int .i64 e.2.2.2.2.2)
theorem Evs.at {w : World} {a : Option Addr} {vs : List V6} {n k : Nat} (h : Evs w a vs) (hl : vs.length = n) (hk : k < n) :
    ∃ b off, a = some ⟨b, off, none⟩ ∧ b < w.heap.size ∧ ∀ j, j < n → EvAt w b (off + j * 6) (vs.getD j v0) := by
  have hl6 : (vInts vs).length = n * 6 := by rw [vInts_len, hl]
  rcases h with h | ⟨b, off, ha, hb, hc⟩
  · rw [h] at hl6; simp at hl6; omega
  · refine ⟨b, off, ha, hb, fun j hj => ?_⟩
    obtain ⟨g0, g1, g2, g3, g4, g5⟩ := vInts_get (vs := vs) (k := j) (by omega)
    have c := fun t (ht : t < 6) => hc (j * 6 + t) (by rw [hl6]; omega)
    refine ⟨?_, ?_, ?_, ?_, ?_, ?_⟩
    · rw [← g0]; exact hc (j * 6) (by rw [hl6]; omega)
    · rw [← g1, Nat.add_assoc]; exact c 1 (by omega)
    · rw [← g2, Nat.add_assoc]; exact c 2 (by omega)
    · rw [← g3, Nat.add_assoc]; exact c 3 (by omega)
    · rw [← g4, Nat.add_assoc]; exact c 4 (by omega)
    · rw [← g5, Nat.add_assoc]; exact c 5 (by omega)
/-- What the walk is told of events that came in. -/
def IsEvs (w : World) (a : Option Addr) (n cap : Nat) (vs : List V6) : Prop := vs.length = n ∧ n ≤ cap ∧ cap ≤ maxLen ∧ Evs w a vs
theorem ev_not {vs : List V6} {k : Nat} (hk : k < vs.length) (h : vOk vs k = false) : evB vs = false := by
  rw [← Bool.not_eq_true]
  intro h'
  simp only [evB, Bool.and_eq_true, List.all_eq_true, List.mem_range] at h'
  rw [h'.1 k hk] at h; cases h
theorem ev_of {vs : List V6} (h : ∀ j, j < vs.length → vOk vs j = true) : evB vs = decide (vs.length ≤ 40) := by
  have : (List.range vs.length).all (vOk vs) = true := by
    simp only [List.all_eq_true, List.mem_range]; exact h
  rw [evB, this, Bool.true_and]
end Go.Proofs.Ytdkdfehlmphikaa
