/- DropFlow of the reference. No condition but lists of at most 2^20 entries. -/
import Derived.Test.YtdkdfehlmphikaaTabG
import Derived.Test.YtdkdfehlmphikaaTabW
namespace Go.Proofs.Ytdkdfehlmphikaa
open Go.RowKit
theorem tv_parts {sz st : Int} {es : List E7} (h : tv sz st es = true) : inB sz 1 12 = true ∧ inB st 1 100000 = true ∧ (es.length : Int) ≤ sz ∧ ∀ k, k < es.length → eOk es k = true := by
  simp only [tv, Bool.and_eq_true, List.all_eq_true, List.mem_range, decide_eq_true_eq] at h
  exact ⟨h.1.1.1, h.1.1.2, h.1.2, h.2⟩
theorem tv_apart {sz st : Int} {es : List E7} (h : tv sz st es = true) {i j : Nat} (hj : j < es.length) (hi : i < j) : (es.getD i e0).1 ≠ (es.getD j e0).1 := by
  have := (tv_parts h).2.2.2 j hj
  simp only [eOk, Bool.and_eq_true, Bool.not_eq_true', decide_eq_false_iff_not] at this
  intro e
  apply this.1.1.1.2
  rw [← e]
  refine List.mem_map.2 ⟨es.getD i e0, ?_, rfl⟩
  rw [List.mem_take_iff_getElem]
  refine ⟨i, by omega, ?_⟩
  rw [List.getD_eq_getElem?_getD, List.getElem?_eq_getElem (by omega)]; rfl
/-- In a valid table a flow stands at one place at most: it is struck there. -/
theorem drop_at {sz st : Int} {es : List E7} {f : F5} {k : Nat} (h : tv sz st es = true) (hk : k < es.length) (hf : (es.getD k e0).1 = f) : es.filter (fun e => !decide (e.1 = f)) = es.take k ++ es.drop (k + 1) := by
  have e1 : es = es.take k ++ (es.getD k e0 :: es.drop (k + 1)) := by
    have h2 : es.getD k e0 = es[k] := by rw [List.getD_eq_getElem?_getD, List.getElem?_eq_getElem hk]; rfl
    rw [h2, ← List.drop_eq_getElem_cons hk, List.take_append_drop]
  have h1 : (es.take k).filter (fun e => !decide (e.1 = f)) = es.take k := by
    rw [List.filter_eq_self]
    intro x hx
    obtain ⟨i, hi, rfl⟩ := List.getElem_of_mem hx
    rw [List.length_take] at hi
    have := tv_apart h hk (show i < k by omega)
    rw [hf] at this
    rw [List.getD_eq_getElem?_getD, List.getElem?_eq_getElem (by omega)] at this
    simpa using this
  have h2 : (es.drop (k + 1)).filter (fun e => !decide (e.1 = f)) = es.drop (k + 1) := by
    rw [List.filter_eq_self]
    intro x hx
    obtain ⟨i, hi, rfl⟩ := List.getElem_of_mem hx
    rw [List.length_drop] at hi
    have := tv_apart h (show k + 1 + i < es.length by omega) (show k < k + 1 + i by omega)
    rw [hf] at this
    rw [List.getD_eq_getElem?_getD, List.getElem?_eq_getElem (by omega)] at this
    simpa using fun e => this e.symm
  conv => lhs; rw [e1]
  rw [List.filter_append, h1, List.filter_cons, h2]
  simp [-List.getD_eq_getElem?_getD, hf]
theorem drop_no {es : List E7} {f : F5} (h : f ∉ es.map (·.1)) : es.filter (fun e => !decide (e.1 = f)) = es := by
  rw [List.filter_eq_self]
  intro x hx
  have : x.1 ≠ f := fun e => h (e ▸ List.mem_map.2 ⟨x, hx, rfl⟩)
  simpa using this
theorem Ents.drop {w : World} {b off : Nat} {es : List E7} (h : Ents w (some ⟨b, off, none⟩) es) (k : Nat) : Ents w (some ⟨b, off + k * 7, none⟩) (es.drop k) := by
  unfold Ents; rw [eInts_drop]
  rcases h with h | ⟨b', off', ha, hb, hc⟩
  · exact .inl (by rw [h]; simp)
  · cases ha
    refine .inr ⟨b, off + k * 7, rfl, hb, fun i hi => ?_⟩
    rw [List.length_drop] at hi
    have := hc (k * 7 + i) (by omega)
    rw [← Nat.add_assoc] at this
    rw [this, List.getD_eq_getElem?_getD, List.getD_eq_getElem?_getD, List.getElem?_drop]
end Go.Proofs.Ytdkdfehlmphikaa
