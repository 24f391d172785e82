/- Plain facts on counts: their sum is the list's length; the counts of two parts, added, are the counts of all. No program in sight. -/
import Derived.Test.YtdgfngcfodccmaaHistC
import Derived.Test.YtdgfngcfodccmaaHistJ
namespace Go.Proofs.Ytdgfngcfodccmaa
open Go.RowKit
theorem sumTo_set (C : List Int) (i : Nat) (v : Int) (hi : i < C.length) : ∀ n, sumTo (C.set i v) n = sumTo C n + if i < n then v - C.getD i 0 else 0
  | 0 => by simp [sumTo]
  | n + 1 => by
    have ih := sumTo_set C i v hi n
    simp only [sumTo, ih]
    by_cases he : i = n
    · subst he
      have : (C.set i v).getD i 0 = v := by simp [List.getD_eq_getElem?_getD, hi]
      rw [this, if_neg (by omega), if_pos (by omega)]; omega
    · have : (C.set i v).getD n 0 = C.getD n 0 := by simp [List.getD_eq_getElem?_getD, List.getElem?_set_ne he]
      rw [this]
      by_cases hlt : i < n
      · rw [if_pos hlt, if_pos (by omega)]; omega
      · rw [if_neg hlt, if_neg (by omega)]; omega
theorem sumTo_bump (C : List Int) (x : Int) (hC : C.length = 13) (hx : 0 ≤ x) : sumTo (bump C x) 13 = sumTo C 13 + 1 := by
  have := cls_bd hx
  unfold bump
  rw [sumTo_set _ _ _ (by omega), if_pos (by omega)]; omega
theorem sumTo_fold (ys : List Int) (h : ∀ y ∈ ys, 0 ≤ y) : ∀ C : List Int, C.length = 13 → sumTo (ys.foldl bump C) 13 = sumTo C 13 + ys.length := by
  induction ys with
  | nil => intro C _; simp
  | cons y r ih =>
    intro C hC
    rw [List.foldl_cons, ih (fun z hz => h z (List.mem_cons_of_mem _ hz)) _ (by rw [bump_len, hC]), sumTo_bump C y hC (h y List.mem_cons_self), List.length_cons]
    omega
theorem zeros_sum : sumTo (List.replicate 13 0) 13 = 0 := by decide
theorem bump_at (C : List Int) (x : Int) (j : Nat) (hC : C.length = 13) (hx : 0 ≤ x) : (bump C x).getD j 0 = C.getD j 0 + if (cls x).toNat = j then 1 else 0 := by
  have hb := cls_bd hx
  unfold bump
  by_cases he : (cls x).toNat = j
  · subst he
    rw [if_pos rfl]
    simp [List.getD_eq_getElem?_getD, show (cls x).toNat < C.length by omega]
  · rw [if_neg he]
    simp [List.getD_eq_getElem?_getD, List.getElem?_set_ne he]
theorem fold_add (ys : List Int) (h : ∀ y ∈ ys, 0 ≤ y) : ∀ C : List Int, C.length = 13 → ∀ j, (ys.foldl bump C).getD j 0 = C.getD j 0 + (ys.foldl bump (List.replicate 13 0)).getD j 0 := by
  induction ys with
  | nil => intro C _ j; rw [List.foldl_nil, List.foldl_nil, zero_get]; omega
  | cons y r ih =>
    intro C hC j
    have hr : ∀ z ∈ r, 0 ≤ z := fun z hz => h z (List.mem_cons_of_mem _ hz)
    have hy := h y List.mem_cons_self
    rw [List.foldl_cons, List.foldl_cons, ih hr _ (by rw [bump_len, hC]) j, ih hr (bump (List.replicate 13 0) y) (by rw [bump_len]; simp) j, bump_at C y j hC hy, bump_at _ y j (by simp) hy, zero_get]
    omega
theorem ok_mem {xs : List Int} (h : okTimes xs = true) : ∀ y ∈ xs, 0 ≤ y := fun y hy => by
  simp only [okTimes, Bool.and_eq_true] at h
  exact of_decide_eq_true (List.all_eq_true.1 h.2 y hy)
theorem ok_len {xs : List Int} (h : okTimes xs = true) : xs.length ≤ 60 := by
  simp only [okTimes, Bool.and_eq_true, decide_eq_true_eq] at h; exact h.1
theorem hist_fold {xs : List Int} (h : okTimes xs = true) : histV xs = xs.foldl bump (List.replicate 13 0) := by
  simp [histV, h, cntOf]
theorem hist_sum {xs : List Int} (h : okTimes xs = true) : sumTo (histV xs) 13 = xs.length := by
  rw [hist_fold h, sumTo_fold xs (ok_mem h) _ (by simp), zeros_sum]; omega
theorem hist_len {xs : List Int} (h : okTimes xs = true) : (histV xs).length = 13 := by rw [hist_fold h, foldl_len]; simp
theorem hist_hv {xs : List Int} (h : okTimes xs = true) : hv (histV xs) = true := by
  have hl := hist_len h
  simp only [hv, Bool.and_eq_true, decide_eq_true_eq]
  refine ⟨all_of fun j hj => inB_true.2 ?_, hl⟩
  have h2 := ok_len h
  have h3 : histV xs = cntOf xs xs.length := by simp [histV, h]
  have := cntOf_bd xs xs.length j (Nat.le_refl _)
  rw [h3]; omega
theorem ok_parts {ys zs : List Int} (h : okTimes (ys ++ zs) = true) : okTimes ys = true ∧ okTimes zs = true := by
  have h1 := ok_mem h
  have h2 := ok_len h
  rw [List.length_append] at h2
  refine ⟨?_, ?_⟩
  · simp only [okTimes, Bool.and_eq_true, decide_eq_true_eq]
    exact ⟨by omega, List.all_eq_true.2 fun x hx => decide_eq_true (h1 x (List.mem_append_left _ hx))⟩
  · simp only [okTimes, Bool.and_eq_true, decide_eq_true_eq]
    exact ⟨by omega, List.all_eq_true.2 fun x hx => decide_eq_true (h1 x (List.mem_append_right _ hx))⟩
theorem hist_parts {ys zs : List Int} (h : okTimes (ys ++ zs) = true) : joinOk (histV ys) (histV zs) = true ∧ joinV (histV ys) (histV zs) = histV (ys ++ zs) := by
  obtain ⟨h1, h2⟩ := ok_parts h
  have e : sums (histV ys) (histV zs) 13 = histV (ys ++ zs) := by
    have hl := hist_len h
    apply List.ext_getElem?
    intro j
    by_cases hj : j < 13
    · have e1 : (sums (histV ys) (histV zs) 13)[j]? = some ((histV ys).getD j 0 + (histV zs).getD j 0) := by simp [sums, hj]
      rw [e1, getD_of_lt (by omega : j < (histV (ys ++ zs)).length), hist_fold h, hist_fold h1, hist_fold h2, List.foldl_append, fold_add zs (ok_mem h2) (ys.foldl bump (List.replicate 13 0)) (by rw [foldl_len]; simp) j]
    · rw [List.getElem?_eq_none (by rw [sums_len]; omega), List.getElem?_eq_none (by omega)]
  have h3 : joinOk (histV ys) (histV zs) = true := by
    unfold joinOk; rw [e, hist_hv h1, hist_hv h2, hist_hv h]; rfl
  exact ⟨h3, by unfold joinV; rw [h3, if_pos rfl, e]⟩
end Go.Proofs.Ytdgfngcfodccmaa
