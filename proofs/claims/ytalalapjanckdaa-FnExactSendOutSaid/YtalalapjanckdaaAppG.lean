/- A law for 'append' to a row of one's own, in a region that draws, guarded or not: the length and the list are given by name. No condition. -/
import Derived.Test.YtalalapjanckdaaApp
import Derived.Deep.RegionHeld3
namespace Go.Proofs.Ytalalapjanckdaa
open Go.RowKit
theorem step_app {ops : Array Oper} {o : Oper} {a : Act} {K : Act → World → Prop} {Q : Exit → Act → World → Prop} {E : Prop} (w : World) (hw : Region.wanted o (yielded ops a.tmps) = true) (s x : Operand)
    (ho : o.op = .call { callee := .builtin .append, args := #[s, x], argTypes := #[50, 50] })
    (base : Nat) (v : Value) (n : Nat) (xs : List Int) (hs : a.eval s = v) (hown : w.ownsRow base 3 1 v n (xs.map (Value.int .i64)))
    (ad : Addr) (m c : Nat) (news : List Int) (hx : a.eval x = .slice (some ad) m c) (hl : news.length = m) (hnews : ∀ j u, (news.map (Value.int .i64))[j]? = some u → w.cell? (ad.add j) = some u)
    (hm : 0 < m) (hnm : n + m ≤ 1000000) (hbase : base ≤ w.heap.size) (N : Nat) (hN : n + m = N) (ys : List Int) (hys : xs ++ news = ys)
    (h : ∀ g cap w', w'.ownsRow base 3 1 (.slice (some ⟨g, 0, none⟩) N cap) N (ys.map (Value.int .i64)) → w.grownBy w' v.ownBlock → (v.ownBlock = some g ∨ g = w.heap.size) → g < w'.heap.size → K (a.put o.dst (.slice (some ⟨g, 0, none⟩) N cap)) w') :
    if Region.wanted o (yielded ops a.tmps) = true then Oper.wp Try.prog o a w K Q else E := by
  obtain ⟨i0, hi, hz0, hz1, hz2⟩ := info_parts infoInt8
  rw [if_pos hw]
  refine wp_append_lies w s x 50 ho base 3 i0 (.int .i64 0) 1 8 Try.underlying50 hi hz0 hz1 hz2 rfl (by decide) v n _ hs hown ad m c (news.map (Value.int .i64)) hx (by simpa using hl) hnews ?_ hm (by unfold maxLen; omega) (by omega) hbase _ rfl ?_
  · intro u hu
    obtain ⟨k, _, rfl⟩ := List.mem_map.1 hu
    rfl
  · intro g cap w' h2 h3 h4 h5
    rw [← List.map_append, hys, hN] at h2
    rw [hN]
    exact h g cap w' h2 h3 h4 h5
theorem own_emp {B : Nat} (w : World) (h : B ≤ w.heap.size) : (w.alloc (.cells #[] 3)).ownsRow B 3 1 (.slice (some ⟨w.heap.size, 0, none⟩) 0 0) 0 (([] : List Int).map (Value.int .i64)) :=
  ⟨rfl, .inr ⟨w.heap.size, 0, #[], rfl, h, heap_alloc_new w _, Nat.le_refl _, by unfold maxLen; omega, rfl, rfl⟩⟩
theorem own_emp2 {B : Nat} (w : World) (g : Nat) (hg : w.heap.size = g) (h : B ≤ g) : (w.alloc (.cells #[] 3)).ownsRow B 3 1 (.slice (some ⟨g, 0, none⟩) 0 0) 0 (([] : List Int).map (Value.int .i64)) := by
  subst hg; exact own_emp w h
theorem one_news {w : World} {ad : Addr} {k : Int} (h : w.cell? ad = some (.int .i64 k)) : ∀ j u, ([k].map (Value.int .i64))[j]? = some u → w.cell? (ad.add j) = some u := by
  intro j u hu
  match j, hu with
  | 0, hu =>
    simp only [List.map_cons, List.map_nil, List.getElem?_cons_zero, Option.some.injEq] at hu
    subst hu
    simpa [Addr.add] using h
theorem cell_new1 (w : World) (v : Value) (T : TypeId) : (w.alloc (.cells #[v] T)).cell? ⟨w.heap.size, 0, none⟩ = some v := (Box.new w T [v]).cell 0
theorem cell_new2 (w : World) (v : Value) (T : TypeId) (g : Nat) (h : w.heap.size = g) : (w.alloc (.cells #[v] T)).cell? ⟨g, 0, none⟩ = some v := by subst h; exact cell_new1 w v T
end Go.Proofs.Ytalalapjanckdaa
