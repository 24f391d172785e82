/- slices.Delete at entries, of a row of one's own; 'append' to a row whose head was cut off. No condition but lists of at most 2^20 entries. -/
import Derived.Test.YtdkdfehlmphikaaTabC
import Derived.Deep.RegionLaw
import Derived.ArgAppend
namespace Go.Proofs.Ytdkdfehlmphikaa
open Go.RowKit
/-- Values laid into a list from a place on. -/
def putAt : List Value → Nat → List Value → List Value
  | xs, _, [] => xs
  | xs, o, v :: r => putAt (xs.set o v) (o + 1) r
theorem putAt_eq : ∀ (vs xs : List Value) (o : Nat), o + vs.length ≤ xs.length → putAt xs o vs = xs.take o ++ vs ++ xs.drop (o + vs.length)
  | [], xs, o, h => by simp [putAt]
  | v :: r, xs, o, h => by
    simp only [List.length_cons] at h
    have e : xs.set o v = xs.take o ++ v :: xs.drop (o + 1) := by rw [List.set_eq_take_append_cons_drop, if_pos (by omega)]
    have hl : (xs.take o).length = o := by rw [List.length_take]; omega
    have h1 : (xs.set o v).take (o + 1) = xs.take o ++ [v] := by
      rw [e, List.take_append, List.take_of_length_le (by omega), hl, show o + 1 - o = 1 by omega]; rfl
    have h2 : (xs.set o v).drop (o + 1 + r.length) = xs.drop (o + (r.length + 1)) := by
      rw [List.drop_set_of_lt (by omega)]; congr 1; omega
    rw [putAt, putAt_eq r _ _ (by rw [List.length_set]; omega), h1, h2, List.length_cons]
    simp
theorem row_putAt {base g n cap : Nat} {e : TypeId} {size : Nat} : ∀ (vs : List Value) (o : Nat) (w : World) (xs : List Value), w.ownsRow base e size (.slice (some ⟨g, 0, none⟩) n cap) n xs → (w.setCells g o vs).ownsRow base e size (.slice (some ⟨g, 0, none⟩) n cap) n (putAt xs o vs)
  | [], _, _, _, h => h
  | v :: r, o, _, _, h => row_putAt r (o + 1) _ _ (h.stored o v).1
/-- A row cut short. -/
theorem row_cut {w : World} {base g n cap : Nat} {e : TypeId} {size : Nat} {xs : List Value} (h : w.ownsRow base e size (.slice (some ⟨g, 0, none⟩) n cap) n xs) (m : Nat) (hm : m ≤ n) : w.ownsRow base e size (.slice (some ⟨g, 0, none⟩) m cap) m (xs.take (m * size)) := by
  have hms := Nat.mul_le_mul_right size hm
  have hl : (xs.take (m * size)).length = m * size := by rw [List.length_take, h.1]; exact Nat.min_eq_left hms
  refine ⟨hl, ?_⟩
  rcases h.2 with ⟨h1, _⟩ | ⟨g', c, cur, h1, hb, hg, hnc, hcm, hcs, ht⟩
  · injection h1 with h1; cases h1
  · injection h1 with h3 h4 h5
    injection h3 with h3
    injection h3 with h3
    subst h3 h5
    refine .inr ⟨g, cap, cur, rfl, hb, hg, by omega, hcm, hcs, ?_⟩
    rw [← ht, List.take_take, Nat.min_eq_left hms]
/-- A row's cells reach as far as its capacity. -/
theorem row_spare {w : World} {base g n cap : Nat} {e : TypeId} {size : Nat} {xs : List Value} (h : w.ownsRow base e size (.slice (some ⟨g, 0, none⟩) n cap) n xs) (i : Nat) (hi : i < cap * size) : (w.cell? ⟨g, i, none⟩).isSome = true := by
  rcases h.2 with ⟨h1, _⟩ | ⟨g', c, cur, h1, hb, hg, hnc, hcm, hcs, ht⟩
  · injection h1 with h1; cases h1
  · injection h1 with h3 h4 h5
    injection h3 with h3
    injection h3 with h3
    subst h3 h5
    rw [cell_of_row w g i cur e (0, 0) hg, Array.getElem?_eq_getElem (by omega)]; rfl
/-- 'append' of one element behind a row that is known by its cells, in a block of one's own: in place, or in a new block. -/
theorem run_appO {T e : TypeId} {size bytes : Nat} (w : World) (ty : TypeId) (H : Elem T e size bytes) (b off n cap : Nat) (xs : List Value) (hlx : xs.length = n * size) (hb : b < w.heap.size)
    (holds : ∀ j u, xs[j]? = some u → w.cell? ⟨b, off + j, none⟩ = some u) (hspare : n < cap → ∀ j, j < size → (w.cell? ⟨b, off + n * size + j, none⟩).isSome = true ∧ w.frozen? ⟨b, off + n * size + j, none⟩ = false)
    (ad : Addr) (c : Nat) (news : List Value) (hl : news.length = size) (hnews : ∀ j u, news[j]? = some u → w.cell? (ad.add j) = some u) (h1 : ∀ u ∈ news, u.oneCell' = true) (hn : n ≤ 1000000) :
    ∃ (a' : Addr) (cap' : Nat) (w' : World), (Builtin.append_ #[T, T] ty #[.slice (some ⟨b, off, none⟩) n cap, .slice (some ad) 1 c]).run Try.prog w = .ok (.slice (some a') (n + 1) cap') w' ∧ Vals w' (some a') (xs ++ news) ∧ w.grownBy w' (some b) ∧ (a'.block = b ∨ w.heap.size ≤ a'.block) := by
  obtain ⟨i0, z, hT, hi, hz0, hz1, hz2, hz, h0, hby⟩ := H
  have hl1 : news.length = 1 * i0.size := by rw [hl, hz1, Nat.one_mul]
  by_cases hr : n + 1 ≤ cap
  · have hs := hspare (by omega)
    have hc : ∀ j, j < news.length → (w.cell? ⟨b, off + n * i0.size + j, none⟩).isSome = true := fun j hj => by rw [hz1]; exact (hs j (by omega)).1
    have hf : ∀ j, j < news.length → w.frozen? ⟨b, off + n * i0.size + j, none⟩ = false := fun j hj => by rw [hz1]; exact (hs j (by omega)).2
    refine ⟨⟨b, off, none⟩, cap, _, run_append_room_cells (P := Try.prog) w T ty e i0 hT hi b off n cap ad 1 c news hl1 hnews h1 hr hc hf, ?_, gb_setCells w b news _ w (World.grownBy.refl _ _), .inl rfl⟩
    refine .inr ⟨b, off, rfl, Nat.lt_of_lt_of_le hb (gb_setCells w b news _ w (World.grownBy.refl _ _)).size, fun j u hu => ?_⟩
    by_cases hj : j < xs.length
    · rw [List.getElem?_append_left hj] at hu
      rw [World.cell?_setCells_out b news _ w _ (fun _ _ => .inl (by show off + j < _; rw [hz1]; omega))]
      exact holds j u hu
    · rw [List.getElem?_append_right (by omega)] at hu
      obtain ⟨hj2, hu2⟩ := List.getElem?_eq_some_iff.1 hu
      have := World.cell?_setCells_in b news (off + n * i0.size) w hc (j - xs.length) hj2
      rw [show off + n * i0.size + (j - xs.length) = off + j by rw [hz1]; omega] at this
      rw [this, hu2]
  · have hby2 : (n + 1) * bytes ≤ 1000001 * 100 := Nat.mul_le_mul (by omega) hby
    have holds' : ∀ j u, xs[j]? = some u → w.cell? ((⟨b, off, none⟩ : Addr).add j) = some u := fun j u hu => by
      have ea : (⟨b, off, none⟩ : Addr).add j = ⟨b, off + j, none⟩ := by
        unfold Addr.add
        split
        · rename_i hi0; subst hi0; rfl
        · rfl
      rw [ea]; exact holds j u hu
    obtain ⟨v', w', hrun, ho, hg⟩ := run_append_arg_grows (P := Try.prog) w T ty e i0 z size bytes hT hi hz0 hz1 hz2 hz h0 ⟨b, off, none⟩ n cap xs hlx holds' ad 1 c news (by rw [hl, Nat.one_mul]) hnews (by omega) (by unfold maxLen; omega) (by omega)
    obtain ⟨g, cap', rfl, hg1, hg2⟩ := ho.form (by omega)
    exact ⟨⟨g, 0, none⟩, cap', w', hrun, row_vals ho, grown_any hg, .inr hg1⟩
section
variable {ops : Array Oper} {rest : List Oper} {o : Oper} {a : Act} {Q : Exit → Act → World → Prop} {T e : TypeId} {size bytes : Nat}
theorem wpl_appO (w : World) (hgd : o.guard = none) (H : Elem T e size bytes) (s x : Operand)
    (ho : o.op = .call { callee := .builtin .append, args := #[s, x], argTypes := #[T, T] })
    (b off n cap : Nat) (xs : List Value) (hs : a.eval s = .slice (some ⟨b, off, none⟩) n cap) (hlx : xs.length = n * size) (hb : b < w.heap.size)
    (holds : ∀ j u, xs[j]? = some u → w.cell? ⟨b, off + j, none⟩ = some u) (hspare : n < cap → ∀ j, j < size → (w.cell? ⟨b, off + n * size + j, none⟩).isSome = true ∧ w.frozen? ⟨b, off + n * size + j, none⟩ = false)
    (ad : Addr) (c : Nat) (news : List Value) (hx : a.eval x = .slice (some ad) 1 c) (hl : news.length = size) (hnews : ∀ j u, news[j]? = some u → w.cell? (ad.add j) = some u) (h1 : ∀ u ∈ news, u.oneCell' = true) (hn : n ≤ 1000000)
    (N : Nat) (hN : n + 1 = N) (ys : List Value) (hys : xs ++ news = ys)
    (h : ∀ (a' : Addr) cap' w', Vals w' (some a') ys → w.grownBy w' (some b) → (a'.block = b ∨ w.heap.size ≤ a'.block) → wpList Try.prog ops Q rest (a.put o.dst (.slice (some a') N cap')) w') :
    wpList Try.prog ops Q (o :: rest) a w :=
  wpList_plain hgd fun _ hK => by
    obtain ⟨a', cap', w', hr, h2, h3, h4⟩ := run_appO w o.type H b off n cap xs hlx hb holds hspare ad c news hl hnews h1 hn
    rw [hN] at hr
    rw [hys] at h2
    unfold Oper.wp execOp
    simp only [ho, resolve, invoke, builtin, Sem.run_bind, Sem.run_pure, Result.andThen_ok, List.map_toArray, List.map_cons, List.map_nil, hs, hx, hr]
    exact hK _ _ (h a' cap' w' h2 h3 h4)
end
theorem del_cells {es : List E7} {n k : Nat} (hl : es.length = n) (hk : k < n) :
    (putAt (putAt (eCells es) (k * 7) (eCells (es.drop (k + 1)))) ((n - 1) * 7) (List.replicate 7 (.int .i64 0))).take ((n - 1) * 7) = eCells (es.take k ++ es.drop (k + 1)) := by
  have h0 : (eCells es).length = n * 7 := by rw [List.length_map, eInts_len, hl]
  have h1 : (eCells (es.drop (k + 1))).length = (n - (k + 1)) * 7 := by rw [List.length_map, eInts_len, List.length_drop, hl]
  have h2 : (eCells (es.take k)).length = k * 7 := by rw [List.length_map, eInts_len, List.length_take, hl]; congr 1; omega
  have h3 : (eCells es).take (k * 7) = eCells (es.take k) := by unfold eCells; rw [eInts_take, List.map_take]
  rw [putAt_eq (eCells (es.drop (k + 1))) _ _ (by omega), h3]
  rw [putAt_eq _ _ _ (by simp only [List.length_append, List.length_replicate, List.length_drop, h0, h1, h2]; omega)]
  have h4 : (eCells (es.take k) ++ eCells (es.drop (k + 1))).length = (n - 1) * 7 := by rw [List.length_append, h1, h2]; omega
  rw [List.append_assoc, List.take_left' (by rw [List.length_take, List.length_append, h4]; omega), List.take_left' h4]
  unfold eCells
  rw [eInts_app, List.map_append]
end Go.Proofs.Ytdkdfehlmphikaa
