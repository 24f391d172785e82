/- Plain laws of TouchFlow and of ForwardPacket's tables. No program in sight but the seat's own name. -/
import Derived.Test.YtdkdfehlmphikaaVer
namespace Go.Proofs.Ytdkdfehlmphikaa
open Go.RowKit
theorem TV.snoc {sz st : Int} {ks : List E7} (h : TV sz st ks) {e : E7} (hg : eGood e) (hr : (ks.length : Int) + 1 ≤ sz) (ha : ∀ k ∈ ks, k.1 ≠ e.1) (ho : ∀ k ∈ ks, k.2.2 ≤ e.2.2) : TV sz st (ks ++ [e]) := by
  refine ⟨h.size, h.stay, ?_, ?_, ?_, ?_⟩
  · rw [List.length_append]; simp only [List.length_cons, List.length_nil]; omega
  · intro x hx
    rcases List.mem_append.1 hx with hx | hx
    · exact h.good x hx
    · rw [List.mem_singleton.1 hx]; exact hg
  · rw [List.pairwise_append]
    exact ⟨h.apart, List.pairwise_singleton _ _, fun x hx y hy => by rw [List.mem_singleton.1 hy]; exact ha x hx⟩
  · rw [List.pairwise_append]
    exact ⟨h.order, List.pairwise_singleton _ _, fun x hx y hy => by rw [List.mem_singleton.1 hy]; exact ho x hx⟩
theorem rest_sub (sz : Int) (es : List E7) (f : F5) : (restT sz es f).Sublist es := by
  unfold restT
  split
  · exact List.filter_sublist
  · split
    · exact List.drop_sublist _ _
    · exact List.Sublist.refl _
theorem rest_no {sz : Int} {es : List E7} {f : F5} : ∀ k ∈ restT sz es f, k.1 ≠ f := by
  intro k hk
  unfold restT at hk
  split at hk
  · simpa using (List.mem_filter.1 hk).2
  · rename_i hn
    have hk' : k ∈ es := by
      split at hk
      · exact List.mem_of_mem_drop hk
      · exact hk
    intro he
    exact hn (List.mem_map.2 ⟨k, hk', he⟩)
theorem filter_lt {f : F5} : ∀ {es : List E7}, f ∈ es.map (·.1) → (es.filter (fun e => !decide (e.1 = f))).length + 1 ≤ es.length
  | [], h => by cases h
  | e :: r, h => by
    by_cases he : e.1 = f
    · have : (r.filter (fun e => !decide (e.1 = f))).length ≤ r.length := List.length_filter_le _ _
      rw [List.filter_cons_of_neg (by simp [he])]
      simp only [List.length_cons]
      omega
    · have h' : f ∈ r.map (·.1) := by
        rcases List.mem_cons.1 h with h | h
        · exact absurd h.symm he
        · exact h
      have := filter_lt h'
      rw [List.filter_cons_of_pos (by simp [he])]
      simp only [List.length_cons]
      omega
theorem rest_len {sz st : Int} {es : List E7} {f : F5} (h : TV sz st es) : ((restT sz es f).length : Int) + 1 ≤ sz := by
  have h1 := h.room
  have h2 := (inB_true.1 h.size).1
  unfold restT
  split
  · rename_i hm
    have := filter_lt hm
    omega
  · split
    · rename_i he
      rw [List.length_drop]; omega
    · omega
/-- The table after a packet is valid. -/
theorem tou_valid {sz st ho now : Int} {es : List E7} {f : F5} (h : touchB (sz, st, es) f ho now = true) : tv sz st (restT sz es f ++ [(f, ho, now)]) = true := by
  simp only [touchB, Bool.and_eq_true] at h
  obtain ⟨⟨⟨h1, h2⟩, h3⟩, h4⟩ := h
  have hT := tv_TV h1
  have hf := fit_now h4
  exact TV_tv ((hT.sub (rest_sub sz es f)).snoc ⟨h2, h3, hf.1⟩ (rest_len hT) rest_no (fun k hk => Int.le_trans (hT.last ((rest_sub sz es f).subset hk)) hf.2))
theorem tou_yes {t : T3} {f : F5} {ho now : Int} (h : touchB t f ho now = true) : touchT t f ho now = ((t.1, t.2.1, restT t.1 t.2.2 f ++ [(f, ho, now)]), true) := by rw [touchT, if_pos h]
theorem tou_no {t : T3} {f : F5} {ho now : Int} (h : touchB t f ho now = false) : touchT t f ho now = ((0, 0, []), false) := by rw [touchT, h]; rfl
theorem tou_found {sz st ho now : Int} {es : List E7} {f : F5} (h : touchB (sz, st, es) f ho now = true) : findT (sz, st, restT sz es f ++ [(f, ho, now)]) f = ho :=
  find_mem (tou_valid h) (e := (f, ho, now)) (List.mem_append_right _ (List.mem_singleton.2 rfl))
theorem tou_rest {sz st ho now : Int} {es : List E7} {f : F5} (h : touchB (sz, st, es) f ho now = true) {e : E7} (he : e ∈ restT sz es f) : findT (sz, st, restT sz es f ++ [(f, ho, now)]) e.1 = e.2.1 :=
  find_mem (tou_valid h) (List.mem_append_left _ he)
/-- An entry of the table is found with its host, or is not found. -/
theorem tou_old {sz st ho now : Int} {es : List E7} {f : F5} (h : touchB (sz, st, es) f ho now = true) {e : E7} (he : e ∈ es) (hf : e.1 ≠ f) : findT (sz, st, restT sz es f ++ [(f, ho, now)]) e.1 = -1 ∨ findT (sz, st, restT sz es f ++ [(f, ho, now)]) e.1 = e.2.1 := by
  rcases find_cases e.1 (tou_valid h) with ⟨_, h1⟩ | ⟨x, hx, hxe, h1⟩
  · exact .inl h1
  · right
    rcases List.mem_append.1 hx with hx | hx
    · simp only [touchB, Bool.and_eq_true] at h
      rw [h1, (tv_TV h.1.1.1).one ((rest_sub sz es f).subset hx) he hxe]
    · rw [List.mem_singleton.1 hx] at hxe
      exact absurd hxe.symm hf
/-- What is lost. -/
def lostB (sz st : Int) (ks : List E7) (f : F5) (e : E7) : Bool := !decide (e.1 = f) && decide (findT (sz, st, ks) e.1 = -1)
theorem host_pos {sz st : Int} {es : List E7} (h : TV sz st es) {e : E7} (he : e ∈ es) : 0 ≤ e.2.1 := (inB_true.1 (h.good e he).2.1).1
theorem lost_kept {sz st ho now : Int} {es : List E7} {f : F5} (h : touchB (sz, st, es) f ho now = true) : ∀ e ∈ restT sz es f, lostB sz st (restT sz es f ++ [(f, ho, now)]) f e = false := by
  intro e he
  have h1 := tou_rest h he
  have h2 : 0 ≤ e.2.1 := by
    simp only [touchB, Bool.and_eq_true] at h
    exact host_pos (tv_TV h.1.1.1) ((rest_sub sz es f).subset he)
  unfold lostB
  rw [h1, decide_eq_false (show ¬ e.2.1 = -1 by omega), Bool.and_false]
/-- Nothing is lost where the flow was there; else one entry at most. -/
theorem lost_in {sz st ho now : Int} {es : List E7} {f : F5} (h : touchB (sz, st, es) f ho now = true) (hm : f ∈ es.map (·.1)) : es.countP (lostB sz st (restT sz es f ++ [(f, ho, now)]) f) = 0 := by
  rw [List.countP_eq_zero]
  intro e he
  by_cases hf : e.1 = f
  · simp [lostB, hf]
  · rw [lost_kept h e (by rw [restT, if_pos hm]; exact List.mem_filter.2 ⟨he, by simpa using hf⟩)]
    exact Bool.false_ne_true
theorem lost_one {sz st ho now : Int} {es : List E7} {f : F5} (h : touchB (sz, st, es) f ho now = true) : es.countP (lostB sz st (restT sz es f ++ [(f, ho, now)]) f) ≤ 1 := by
  by_cases hm : f ∈ es.map (·.1)
  · rw [lost_in h hm]; exact Nat.zero_le _
  · have hk := lost_kept h
    by_cases hs : (es.length : Int) = sz
    · have hr : restT sz es f = es.drop 1 := by rw [restT, if_neg hm, if_pos hs]
      have h0 : (es.drop 1).countP (lostB sz st (restT sz es f ++ [(f, ho, now)]) f) = 0 := by
        rw [List.countP_eq_zero]
        intro e he
        rw [hk e (by rw [hr]; exact he)]
        exact Bool.false_ne_true
      cases es with
      | nil => exact Nat.zero_le _
      | cons x r =>
        rw [List.drop_succ_cons, List.drop_zero] at h0
        rw [List.countP_cons, h0]
        split <;> omega
    · have hr : restT sz es f = es := by rw [restT, if_neg hm, if_neg hs]
      have h0 : es.countP (lostB sz st (restT sz es f ++ [(f, ho, now)]) f) = 0 := by
        rw [List.countP_eq_zero]
        intro e he
        rw [hk e (by rw [hr]; exact he)]
        exact Bool.false_ne_true
      rw [h0]; exact Nat.zero_le _
theorem lost_step {p : E7 → Bool} {es : List E7} {k : Nat} (h : k < es.length) : (es.take (k + 1)).countP p = (es.take k).countP p + if p (es.getD k e0) = true then 1 else 0 := by
  rw [List.take_add_one, List.countP_append, List.getElem?_eq_getElem h, getD_eq7 h]
  simp [List.countP_cons]
/-- A flow that is found was there. -/
theorem find_in {sz st : Int} {es : List E7} {f : F5} (h : tv sz st es = true) (hm : f ∈ es.map (·.1)) : findT (sz, st, es) f ≠ -1 := by
  obtain ⟨e, he, rfl⟩ := List.mem_map.1 hm
  rw [find_mem h he]
  have := host_pos (tv_TV h) he
  omega
end Go.Proofs.Ytdkdfehlmphikaa
