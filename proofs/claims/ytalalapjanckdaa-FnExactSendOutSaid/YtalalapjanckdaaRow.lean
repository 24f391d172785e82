/- Rows of whatever elements, as flat lists of cells: read, owned, kept, made longer. No program in sight but the seat's own name. -/
import Derived.Test.YtalalapjanckdaaAppG
namespace Go.Proofs.Ytalalapjanckdaa
open Go.RowKit
/-- a leads to the cells vs (nothing is said where there are none). -/
def Vals (w : World) (a : Option Addr) (vs : List Value) : Prop :=
  vs = [] ∨ ∃ b off, a = some ⟨b, off, none⟩ ∧ b < w.heap.size ∧ ∀ (i : Nat) (u : Value), vs[i]? = some u → w.cell? ⟨b, off + i, none⟩ = some u
theorem Vals.below {w w' : World} {a : Option Addr} {vs : List Value} (h : Vals w a vs) (hb : Below w.heap.size w w') : Vals w' a vs := by
  rcases h with h | ⟨b, off, ha, hlt, hc⟩
  · exact .inl h
  · exact .inr ⟨b, off, ha, Nat.lt_of_lt_of_le hlt hb.size, fun i u hi => (hb.cell (p := ⟨b, off + i, none⟩) hlt).trans (hc i u hi)⟩
theorem Vals.drew {w : World} {a : Option Addr} {vs : List Value} (h : Vals w a vs) : Vals w.drew a vs := h
theorem Ints.vals {w : World} {a : Option Addr} {xs : List Int} (h : Ints w a xs) : Vals w a (xs.map (Value.int .i64)) := by
  rcases h with h | ⟨b, off, ha, hlt, hc⟩
  · exact .inl (by rw [h]; rfl)
  · refine .inr ⟨b, off, ha, hlt, fun i u hi => ?_⟩
    rw [List.getElem?_map] at hi
    obtain ⟨x, hx, rfl⟩ := Option.map_eq_some_iff.1 hi
    have hlt' := (List.getElem?_eq_some_iff.1 hx).1
    rw [hc i hlt', List.getD_eq_getElem?_getD, hx]; rfl
theorem Vals.ints {w : World} {a : Option Addr} {xs : List Int} (h : Vals w a (xs.map (Value.int .i64))) : Ints w a xs := by
  rcases h with h | ⟨b, off, ha, hlt, hc⟩
  · exact .inl (by simpa using h)
  · exact .inr ⟨b, off, ha, hlt, fun i hi => hc i _ (by rw [List.getElem?_map, getD_of_lt hi]; rfl)⟩
/-- What an owned row reads as. -/
theorem row_vals {w : World} {base n cap : Nat} {e : TypeId} {size : Nat} {a : Option Addr} {vs : List Value} (h : w.ownsRow base e size (.slice a n cap) n vs) : Vals w a vs := by
  rcases h.2 with ⟨h1, h2⟩ | ⟨g, c, cur, h1, hb, hg, _⟩
  · exact .inl (List.eq_nil_of_length_eq_zero (by rw [h.1, h2]; simp))
  · injection h1 with h3 _ h4
    subst h3 h4
    refine .inr ⟨g, 0, rfl, (h.lt g rfl).2, fun i u hi => ?_⟩
    have := h.cells (g := g) rfl i u hi
    rw [Nat.zero_add]
    have ea : (⟨g, 0, none⟩ : Addr).add i = ⟨g, i, none⟩ := by unfold Addr.add; split <;> simp_all
    rwa [ea] at this
theorem row_len {w : World} {base n : Nat} {e : TypeId} {size : Nat} {v : Value} {vs : List Value} (h : w.ownsRow base e size v n vs) : vs.length = n * size := h.1
theorem row_kept {w w' : World} {base n : Nat} {e : TypeId} {size : Nat} {v : Value} {r : Option Nat} {vs : List Value} (h : w.ownsRow base e size v n vs) (hg : w.grownBy w' r) (hne : ∀ k, v.ownBlock = some k → r ≠ some k) : w'.ownsRow base e size v n vs := by
  refine h.kept hg ?_
  cases hb : v.ownBlock with
  | none => exact .inl rfl
  | some k => exact .inr (fun e => hne k hb e.symm)
theorem row_below {w w' : World} {base n : Nat} {e : TypeId} {size : Nat} {v : Value} {vs : List Value} (h : w.ownsRow base e size v n vs) (hb : Below w.heap.size w w') : w'.ownsRow base e size v n vs :=
  row_kept h (below_grown hb) fun _ _ => by simp
theorem row_nil (w : World) (B : Nat) (e : TypeId) (size : Nat) : w.ownsRow B e size (.slice none 0 0) 0 [] := ⟨by simp, .inl ⟨rfl, rfl⟩⟩
theorem row_emp {B : Nat} (w : World) (g : Nat) (e : TypeId) (size : Nat) (hg : w.heap.size = g) (h : B ≤ g) : (w.alloc (.cells #[] e)).ownsRow B e size (.slice (some ⟨g, 0, none⟩) 0 0) 0 [] := by
  subst hg
  exact ⟨by simp, .inr ⟨w.heap.size, 0, #[], rfl, h, heap_alloc_new w _, Nat.le_refl _, by unfold maxLen; omega, by simp, by simp⟩⟩
theorem row_cap {w : World} {base n cap : Nat} {e : TypeId} {size : Nat} {a : Option Addr} {vs : List Value} (h : w.ownsRow base e size (.slice a n cap) n vs) : n ≤ cap ∧ cap ≤ maxLen := by
  rcases h.2 with ⟨h1, h2⟩ | ⟨_, _, _, h1, _, _, h2, h3, _⟩
  · injection h1 with _ h3 h4; subst h3 h4; exact ⟨Nat.le_refl _, Nat.zero_le _⟩
  · injection h1 with _ _ h4; subst h4; exact ⟨h2, h3⟩
/-- What has turned only an owned row has turned nothing that was there. -/
theorem gb_row' {w w1 w2 : World} {v : Value} {n : Nat} {e : TypeId} {size : Nat} {r : Option Nat} {vs : List Value} (h : w.grownBy w1 r) (ho : w1.ownsRow w.heap.size e size v n vs) (k : w1.grownBy w2 v.ownBlock) : w.grownBy w2 r :=
  ⟨k.os.trans h.os, k.tape.trans h.tape, k.output.trans h.output, Nat.le_trans h.size k.size, fun i hi hr => (k.block i (Nat.lt_of_lt_of_le hi h.size) (by
    intro e
    have := (ho.lt i e.symm).1
    omega)).trans (h.block i hi hr)⟩
theorem gb_dr {w w' : World} {r : Option Nat} (h : w.grownBy w' r) : w.grownBy w'.drew r := ⟨h.os, h.tape, h.output, h.size, h.block⟩
theorem gb_al {w w' : World} {r : Option Nat} (h : w.grownBy w' r) (o : Obj) : w.grownBy (w'.alloc o) r :=
  ⟨h.os, h.tape, h.output, Nat.le_trans h.size (by simp), fun k hk hr => (Below.heap_alloc w' o k (Nat.lt_of_lt_of_le hk h.size)).trans (h.block k hk hr)⟩
/-- T is the type of slices of e, and e has so many cells. -/
def Elem (T e : TypeId) (size bytes : Nat) : Prop :=
  ∃ (i : TypeInfo) (z : Value), Try.prog.underlying T = some (.slice e) ∧ Try.prog.info? e = some i ∧ i.zero = some z ∧ i.size = size ∧ i.bytes = bytes ∧ z.cells.size = size ∧ 0 < size ∧ bytes ≤ 100
theorem elem_mk {T e : TypeId} {size bytes : Nat} (z : Value) (hT : Try.prog.underlying T = some (.slice e)) (hi : (Try.prog.info? e).map (fun i => (i.zero, i.size, i.bytes)) = some (some z, size, bytes)) (hz : z.cells.size = size) (h0 : 0 < size) (hb : bytes ≤ 100) : Elem T e size bytes := by
  obtain ⟨i0, hi, hz0, hz1, hz2⟩ := info_parts hi
  exact ⟨i0, z, hT, hi, hz0, hz1, hz2, hz, h0, hb⟩
section
variable {ops : Array Oper} {rest : List Oper} {o : Oper} {a : Act} {K : Act → World → Prop} {Q : Exit → Act → World → Prop} {E : Prop} {T e : TypeId} {size bytes : Nat}
theorem wp_app (w : World) (H : Elem T e size bytes) (s x : Operand)
    (ho : o.op = .call { callee := .builtin .append, args := #[s, x], argTypes := #[T, T] })
    (base : Nat) (v : Value) (n : Nat) (xs : List Value) (hs : a.eval s = v) (hown : w.ownsRow base e size v n xs)
    (ad : Addr) (m c : Nat) (news : List Value) (hx : a.eval x = .slice (some ad) m c) (hl : news.length = m * size) (hnews : ∀ j u, news[j]? = some u → w.cell? (ad.add j) = some u) (h1 : ∀ u ∈ news, u.oneCell' = true)
    (hm : 0 < m) (hnm : n + m ≤ 2000000) (hbase : base ≤ w.heap.size) (N : Nat) (hN : n + m = N) (ys : List Value) (hys : xs ++ news = ys)
    (h : ∀ g cap w', w'.ownsRow base e size (.slice (some ⟨g, 0, none⟩) N cap) N ys → w.grownBy w' v.ownBlock → (v.ownBlock = some g ∨ g = w.heap.size) → g < w'.heap.size → K (a.put o.dst (.slice (some ⟨g, 0, none⟩) N cap)) w') :
    Oper.wp Try.prog o a w K Q := by
  obtain ⟨i0, z, hT, hi, hz0, hz1, hz2, hz, h0, hb⟩ := H
  have hby : (n + m) * bytes ≤ 2000000 * 100 := Nat.mul_le_mul hnm hb
  refine wp_append_lies w s x T ho base e i0 z size bytes hT hi hz0 hz1 hz2 hz h0 v n _ hs hown ad m c news hx hl hnews h1 hm (by unfold maxLen; omega) (by omega) hbase _ rfl ?_
  intro g cap w' h2 h3 h4 h5
  rw [hys, hN] at h2
  rw [hN]
  exact h g cap w' h2 h3 h4 h5
theorem step_app' (w : World) (hw : Region.wanted o (yielded ops a.tmps) = true) (H : Elem T e size bytes) (s x : Operand)
    (ho : o.op = .call { callee := .builtin .append, args := #[s, x], argTypes := #[T, T] })
    (base : Nat) (v : Value) (n : Nat) (xs : List Value) (hs : a.eval s = v) (hown : w.ownsRow base e size v n xs)
    (ad : Addr) (m c : Nat) (news : List Value) (hx : a.eval x = .slice (some ad) m c) (hl : news.length = m * size) (hnews : ∀ j u, news[j]? = some u → w.cell? (ad.add j) = some u) (h1 : ∀ u ∈ news, u.oneCell' = true)
    (hm : 0 < m) (hnm : n + m ≤ 2000000) (hbase : base ≤ w.heap.size) (N : Nat) (hN : n + m = N) (ys : List Value) (hys : xs ++ news = ys)
    (h : ∀ g cap w', w'.ownsRow base e size (.slice (some ⟨g, 0, none⟩) N cap) N ys → w.grownBy w' v.ownBlock → (v.ownBlock = some g ∨ g = w.heap.size) → g < w'.heap.size → K (a.put o.dst (.slice (some ⟨g, 0, none⟩) N cap)) w') :
    if Region.wanted o (yielded ops a.tmps) = true then Oper.wp Try.prog o a w K Q else E := by
  rw [if_pos hw]
  exact wp_app w H s x ho base v n xs hs hown ad m c news hx hl hnews h1 hm hnm hbase N hN ys hys h
theorem wpl_app (w : World) (hgd : o.guard = none) (H : Elem T e size bytes) (s x : Operand)
    (ho : o.op = .call { callee := .builtin .append, args := #[s, x], argTypes := #[T, T] })
    (base : Nat) (v : Value) (n : Nat) (xs : List Value) (hs : a.eval s = v) (hown : w.ownsRow base e size v n xs)
    (ad : Addr) (m c : Nat) (news : List Value) (hx : a.eval x = .slice (some ad) m c) (hl : news.length = m * size) (hnews : ∀ j u, news[j]? = some u → w.cell? (ad.add j) = some u) (h1 : ∀ u ∈ news, u.oneCell' = true)
    (hm : 0 < m) (hnm : n + m ≤ 2000000) (hbase : base ≤ w.heap.size) (N : Nat) (hN : n + m = N) (ys : List Value) (hys : xs ++ news = ys)
    (h : ∀ g cap w', w'.ownsRow base e size (.slice (some ⟨g, 0, none⟩) N cap) N ys → w.grownBy w' v.ownBlock → (v.ownBlock = some g ∨ g = w.heap.size) → g < w'.heap.size → wpList Try.prog ops Q rest (a.put o.dst (.slice (some ⟨g, 0, none⟩) N cap)) w') :
    wpList Try.prog ops Q (o :: rest) a w :=
  wpList_plain hgd fun _ hK => wp_app w H s x ho base v n xs hs hown ad m c news hx hl hnews h1 hm hnm hbase N hN ys hys fun g cap w' h2 h3 h4 h5 => hK _ _ (h g cap w' h2 h3 h4 h5)
end
/-- The cells of a new block. -/
theorem news_of {w : World} {b : Nat} {T : TypeId} {vs : List Value} (h : Box w b T vs) : ∀ j u, vs[j]? = some u → w.cell? ((⟨b, 0, none⟩ : Addr).add j) = some u := fun j u hu => by
  have ea : (⟨b, 0, none⟩ : Addr).add j = ⟨b, j, none⟩ := by unfold Addr.add; split <;> simp_all
  rw [ea, h.cell j]; exact hu
theorem one1 {v : Value} (h : v.oneCell' = true) : ∀ u ∈ [v], u.oneCell' = true := by
  intro u hu
  simp only [List.mem_cons, List.not_mem_nil, or_false] at hu
  subst hu; exact h
theorem Box.new2 (w : World) (T : TypeId) (vs : List Value) (g : Nat) (h : w.heap.size = g) : Box (w.alloc (.cells vs.toArray T)) g T vs := by subst h; exact Box.new w T vs
/-- A new row is the answer. -/
def RetRow (w : World) (e : TypeId) (size n : Nat) (vs : List Value) (en : Ending) (w' : World) : Prop :=
  ∃ (a : Option Addr) (cap : Nat), en = .returned (.slice a n cap) ∧ w'.ownsRow w.heap.size e size (.slice a n cap) n vs ∧ w.grownBy w' none
end Go.Proofs.Ytalalapjanckdaa
