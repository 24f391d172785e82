/- Plain laws of outlets: what stays valid, which slot a flow has. No program in sight but the seat's own name. -/
import Derived.Test.YtalalapjanckdaaMC
namespace Go.Proofs.Ytalalapjanckdaa
open Go.RowKit
/-- An outlet is valid, told by places. -/
structure OV (o r : Int) (fs : List F5) : Prop where
  out : inB o 0 255 = true
  len : inB (fs.length : Int) 1 8 = true
  first : inB r 0 (999 - (fs.length : Int) + 1) = true
  good : ∀ k, k < fs.length → fs.getD k z5 = z5 ∨ fv (fs.getD k z5) = true
  apart : ∀ i j, i < j → j < fs.length → fs.getD j z5 ≠ z5 → fs.getD i z5 ≠ fs.getD j z5
theorem getD5 {fs : List F5} {k : Nat} (h : k < fs.length) : fs.getD k z5 = fs[k] := by
  rw [List.getD_eq_getElem?_getD, List.getElem?_eq_getElem h]; rfl
theorem ov_OV {o r : Int} {fs : List F5} (h : ov o r fs = true) : OV o r fs := by
  obtain ⟨h1, h2, h3, h4⟩ := ov_parts h
  refine ⟨h1, h2, h3, fun k hk => ?_, fun i j hij hj hz he => ?_⟩
  · have := h4 k hk
    simp only [oOk, Bool.or_eq_true, decide_eq_true_eq, Bool.and_eq_true] at this
    exact this.imp id (·.1)
  · have := h4 j hj
    simp only [oOk, Bool.or_eq_true, decide_eq_true_eq, Bool.and_eq_true, Bool.not_eq_true', decide_eq_false_iff_not] at this
    rcases this with this | this
    · exact hz this
    · refine this.2 ?_
      rw [← he, getD5 (by omega)]
      exact List.mem_take_iff_getElem.2 ⟨i, by omega, rfl⟩
theorem OV_ov {o r : Int} {fs : List F5} (h : OV o r fs) : ov o r fs = true := by
  rw [ov_of (fun k hk => ?_), h.out, h.len, h.first]; rfl
  simp only [oOk, Bool.or_eq_true, decide_eq_true_eq, Bool.and_eq_true, Bool.not_eq_true', decide_eq_false_iff_not]
  by_cases hz : fs.getD k z5 = z5
  · exact .inl hz
  · refine .inr ⟨(h.good k hk).resolve_left hz, fun hm => ?_⟩
    obtain ⟨i, hi, he⟩ := List.mem_take_iff_getElem.1 hm
    refine h.apart i k (by omega) hk hz ?_
    rw [getD5 (by omega)]; exact he
theorem getD_set5 {fs : List F5} {k i : Nat} {e : F5} (h : k < fs.length) : (fs.set k e).getD i z5 = if i = k then e else fs.getD i z5 := by
  rw [List.getD_eq_getElem?_getD, List.getElem?_set]
  by_cases hik : i = k
  · subst hik; rw [if_pos rfl, if_pos rfl, if_pos h]; rfl
  · rw [if_neg (fun e => hik e.symm), if_neg hik, List.getD_eq_getElem?_getD]
theorem set_same {fs : List F5} {k : Nat} {e : F5} (h : k < fs.length) (he : fs.getD k z5 = e) : fs.set k e = fs := by
  apply List.ext_getElem?
  intro i
  rw [List.getElem?_set]
  by_cases hik : k = i
  · subst hik; rw [if_pos rfl, if_pos h, List.getElem?_eq_getElem h, ← he, getD5 h]
  · rw [if_neg hik]
theorem not_mem5 {fs : List F5} {f : F5} (h : f ∉ fs) {i : Nat} (hi : i < fs.length) : fs.getD i z5 ≠ f := fun e => h (by rw [← e, getD5 hi]; exact List.getElem_mem hi)
/-- A valid flow is put into its slot, or into a free one. -/
theorem OV.put {o r : Int} {fs : List F5} {f : F5} {k : Nat} (h : OV o r fs) (hf : fv f = true) (hk : k < fs.length) (hs : fs.getD k z5 = f ∨ (f ∉ fs ∧ fs.getD k z5 = z5)) : OV o r (fs.set k f) := by
  rcases hs with hs | ⟨hn, hs⟩
  · rw [set_same hk hs]; exact h
  · refine ⟨h.out, by rw [List.length_set]; exact h.len, by rw [List.length_set]; exact h.first, fun i hi => ?_, fun i j hij hj hz => ?_⟩
    · rw [List.length_set] at hi
      rw [getD_set5 hk]
      split
      · exact .inr hf
      · exact h.good i hi
    · rw [List.length_set] at hj
      rw [getD_set5 hk] at hz
      rw [getD_set5 hk, getD_set5 hk]
      by_cases hjk : j = k
      · rw [if_pos hjk, if_neg (show ¬ i = k by omega)]
        exact not_mem5 hn (by omega)
      · rw [if_neg hjk] at hz ⊢
        by_cases hik : i = k
        · rw [if_pos hik]
          exact fun e => not_mem5 hn hj e.symm
        · rw [if_neg hik]
          exact h.apart i j hij hj hz
theorem OV.free {o r : Int} {fs : List F5} {k : Nat} (h : OV o r fs) (hk : k < fs.length) : OV o r (fs.set k z5) := by
  refine ⟨h.out, by rw [List.length_set]; exact h.len, by rw [List.length_set]; exact h.first, fun i hi => ?_, fun i j hij hj hz => ?_⟩
  · rw [List.length_set] at hi
    rw [getD_set5 hk]
    split
    · exact .inl rfl
    · exact h.good i hi
  · rw [List.length_set] at hj
    rw [getD_set5 hk] at hz
    rw [getD_set5 hk, getD_set5 hk]
    by_cases hjk : j = k
    · rw [if_pos hjk] at hz; exact absurd rfl hz
    · rw [if_neg hjk] at hz ⊢
      by_cases hik : i = k
      · rw [if_pos hik]; exact fun e => hz e.symm
      · rw [if_neg hik]; exact h.apart i j hij hj hz
/-- A flow stands where it stands. -/
theorem OV.place {o r : Int} {fs : List F5} {k : Nat} (h : OV o r fs) (hk : k < fs.length) (hz : fs.getD k z5 ≠ z5) : qOf fs (fs.getD k z5) = (k : Int) :=
  qOf_hit hk rfl (fun j hj => h.apart j k hj hk hz)
/-- What becomes of a valid outlet and a valid flow: no slot is free, or the flow has a slot. -/
theorem send_cases {o r : Int} {fs : List F5} {f : F5} (h : ov o r fs = true) (hf : fv f = true) :
    sendT (o, r, fs) f = ((o, r, fs), z5, false) ∨ ∃ k : Nat, k < fs.length ∧ OV o r (fs.set k f) ∧ sendT (o, r, fs) f = ((o, r, fs.set k f), outF o r k f, true) := by
  unfold sendT
  rw [if_pos (by rw [h, hf]; rfl)]
  have hV := ov_OV h
  rcases qOf_cases fs f with ⟨hn, hq⟩ | ⟨_, k, hq, hk, hkf, _⟩
  · rcases qOf_cases fs z5 with ⟨_, hz⟩ | ⟨_, k, hz, hk, hkf, _⟩
    · left
      have : slT fs f < 0 := by unfold slT; rw [hq, if_pos (by omega), hz]; omega
      dsimp only
      rw [if_pos this]
    · right
      have e : slT fs f = (k : Int) := by unfold slT; rw [hq, if_pos (by omega), hz]
      refine ⟨k, hk, hV.put hf hk (.inr ⟨hn, hkf⟩), ?_⟩
      dsimp only
      rw [e, if_neg (by omega), Int.toNat_natCast]
  · right
    have e : slT fs f = (k : Int) := by unfold slT; rw [hq, if_neg (by omega)]
    refine ⟨k, hk, hV.put hf hk (.inl hkf), ?_⟩
    dsimp only
    rw [e, if_neg (by omega), Int.toNat_natCast]
/-- A flow that has a slot keeps it, and nothing turns. -/
theorem send_again {o r : Int} {fs : List F5} {k : Nat} (h : OV o r fs) (hk : k < fs.length) (hz : fs.getD k z5 ≠ z5) : sendT (o, r, fs) (fs.getD k z5) = ((o, r, fs), outF o r k (fs.getD k z5), true) := by
  have hf := (h.good k hk).resolve_left hz
  have e : slT fs (fs.getD k z5) = (k : Int) := by unfold slT; rw [h.place hk hz, if_neg (by omega)]
  unfold sendT
  rw [if_pos (by rw [OV_ov h, hf]; rfl)]
  dsimp only
  rw [e, if_neg (by omega), Int.toNat_natCast, set_same hk rfl]
theorem send_bad {t : O3} {f : F5} (h : ov t.1 t.2.1 t.2.2 = false ∨ fv f = false) : sendT t f = ((0, 0, []), z5, false) := by
  refine send_zero ?_
  rcases h with h | h
  · rw [h]; rfl
  · rw [h, Bool.and_false]
theorem send_valid {o r v1 v2 : Int} {fs v3 : List F5} {f u : F5} (h : ov o r fs = true) (hs : sendT (o, r, fs) f = ((v1, v2, v3), u, true)) : ov v1 v2 v3 = true ∧ v3.length = fs.length := by
  cases hf : fv f
  · rw [send_bad (.inr hf)] at hs
    simp at hs
  · rcases send_cases h hf with h1 | ⟨k, hk, hV, h1⟩
    · rw [h1] at hs; simp at hs
    · rw [h1] at hs
      simp only [Prod.mk.injEq] at hs
      obtain ⟨⟨rfl, rfl, rfl⟩, _⟩ := hs
      exact ⟨OV_ov hV, List.length_set ..⟩
theorem close_valid {o r v1 v2 : Int} {fs v3 : List F5} {f : F5} (h : ov o r fs = true) (hs : closeT (o, r, fs) f = (v1, v2, v3)) : ov v1 v2 v3 = true ∧ v3.length = fs.length := by
  unfold closeT at hs
  rw [if_pos h] at hs
  dsimp only at hs
  rcases qOf_cases fs f with ⟨_, hq⟩ | ⟨_, k, hq, hk, _⟩
  · rw [hq, if_neg (by omega)] at hs
    simp only [Prod.mk.injEq] at hs
    obtain ⟨rfl, rfl, rfl⟩ := hs
    exact ⟨h, rfl⟩
  · rw [hq, if_pos (by omega), Int.toNat_natCast] at hs
    simp only [Prod.mk.injEq] at hs
    obtain ⟨rfl, rfl, rfl⟩ := hs
    exact ⟨OV_ov ((ov_OV h).free hk), List.length_set ..⟩
theorem ov_zeros {o r : Int} {m : Nat} (h1 : inB o 0 255 = true) (h2 : 1 ≤ m) (h3 : m ≤ 8) (h4 : 0 ≤ r) (h5 : r ≤ 1000 - (m : Int)) : ov o r (List.replicate m z5) = true := by
  have hl : (List.replicate m z5).length = m := List.length_replicate ..
  have hz : ∀ k, k < m → (List.replicate m z5).getD k z5 = z5 := fun k hk => by rw [getD5 (by omega), List.getElem_replicate]
  refine OV_ov ⟨h1, ?_, ?_, fun k hk => .inl (hz k (by omega)), fun i j _ hj h => absurd (hz j (by omega)) h⟩
  · rw [hl]; exact inB_true.2 ⟨by omega, by omega⟩
  · rw [hl]; exact inB_true.2 ⟨by omega, by omega⟩
end Go.Proofs.Ytalalapjanckdaa
