/- 'append' of a whole list, nil or not, to a row of one's own: the new value's shape, and where it lies. No condition. -/
import Derived.Test.YtalalapjanckdaaRowI
import Derived.Laws.AppendOwnNone
namespace Go.Proofs.Ytalalapjanckdaa
open Go.RowKit
theorem own_form {w : World} {base n : Nat} {e : TypeId} {size : Nat} {v : Value} {vs : List Value} (h : w.ownsRow base e size v n vs) : ∃ a cap, v = .slice a n cap := by
  rcases h.2 with ⟨h1, h2⟩ | ⟨g, c, cur, h1, _⟩
  · exact ⟨none, 0, by rw [h1, h2]⟩
  · exact ⟨_, _, h1⟩
theorem own_none {w : World} {base n cap : Nat} {e : TypeId} {size : Nat} {a : Option Addr} {vs : List Value} (h : w.ownsRow base e size (.slice a n cap) n vs) : a = none → n = 0 ∧ cap = 0 := by
  intro ha
  rcases h.2 with ⟨h1, h2⟩ | ⟨g, c, cur, h1, _⟩
  · injection h1 with _ _ h4; exact ⟨h2, h4⟩
  · injection h1 with h3; rw [ha] at h3; cases h3
theorem elemI : Elem 50 3 1 8 := elem_mk (.int .i64 0) Try.underlying50 (by kernel_rfl) rfl (by decide) (by decide)
theorem run_appA {T e : TypeId} {size bytes : Nat} (w : World) (ty : TypeId) (H : Elem T e size bytes) (base : Nat) (v : Value) (n : Nat) (xs : List Value) (hown : w.ownsRow base e size v n xs)
    (a : Option Addr) (m c : Nat) (news : List Value) (hx : Vals w a news) (hl : news.length = m * size) (h1 : ∀ u ∈ news, u.oneCell' = true) (ha : a = none → m = 0 ∧ c = 0) (hnm : n + m ≤ 2000000) (hbase : base ≤ w.heap.size) :
    ∃ a' cap w', (Builtin.append_ #[T, T] ty #[v, .slice a m c]).run Try.prog w = .ok (.slice a' (n + m) cap) w' ∧ w'.ownsRow base e size (.slice a' (n + m) cap) (n + m) (xs ++ news) ∧ w.grownBy w' v.ownBlock ∧
      ((Value.slice a' (n + m) cap).ownBlock = v.ownBlock ∨ (Value.slice a' (n + m) cap).ownBlock = some w.heap.size) := by
  obtain ⟨i0, z, hT, hi, hz0, hz1, hz2, hz, h0, hb⟩ := H
  have hby : (n + m) * bytes ≤ 2000000 * 100 := Nat.mul_le_mul hnm hb
  cases a with
  | none =>
    obtain ⟨rfl, rfl⟩ := ha rfl
    have hn : news = [] := List.eq_nil_of_length_eq_zero (by simpa using hl)
    subst hn
    have hrun := run_append_owned_none (P := Try.prog) (w := w) base T ty e i0 size hT hi v n xs hown
    obtain ⟨a', cap, rfl⟩ := own_form hown
    exact ⟨a', cap, w, hrun, by simpa using hown, World.grownBy.refl _ _, .inl rfl⟩
  | some p =>
    have hnews : ∀ j u, news[j]? = some u → w.cell? (p.add j) = some u := by
      intro j u hu
      rcases hx with h | ⟨b, off, hab, _, hc⟩
      · rw [h] at hu; simp at hu
      · cases hab
        have ea : (⟨b, off, none⟩ : Addr).add j = ⟨b, off + j, none⟩ := by
          unfold Addr.add
          split
          · rename_i hi0; subst hi0; rfl
          · rfl
        rw [ea]; exact hc j u hu
    obtain ⟨v', w', hr, h2, h3, _, h5⟩ := run_append_own_at (P := Try.prog) w base T ty e i0 z size bytes hT hi hz0 hz1 hz2 hz h0 v n xs hown p m c news hl hnews h1 (by unfold maxLen; omega) (by omega) hbase
    obtain ⟨a', cap, rfl⟩ := own_form h2
    exact ⟨a', cap, w', hr, h2, h3, h5⟩
section
variable {ops : Array Oper} {rest : List Oper} {o : Oper} {a : Act} {K : Act → World → Prop} {Q : Exit → Act → World → Prop} {E : Prop} {T e : TypeId} {size bytes : Nat}
theorem wp_appA (w : World) (H : Elem T e size bytes) (s x : Operand)
    (ho : o.op = .call { callee := .builtin .append, args := #[s, x], argTypes := #[T, T] })
    (base : Nat) (v : Value) (n : Nat) (xs : List Value) (hs : a.eval s = v) (hown : w.ownsRow base e size v n xs)
    (ad : Option Addr) (m c : Nat) (news : List Value) (hx : a.eval x = .slice ad m c) (hnews : Vals w ad news) (hl : news.length = m * size) (h1 : ∀ u ∈ news, u.oneCell' = true)
    (had : ad = none → m = 0 ∧ c = 0) (hnm : n + m ≤ 2000000) (hbase : base ≤ w.heap.size) (N : Nat) (hN : n + m = N) (ys : List Value) (hys : xs ++ news = ys)
    (h : ∀ a' cap w', w'.ownsRow base e size (.slice a' N cap) N ys → w.grownBy w' v.ownBlock → ((Value.slice a' N cap).ownBlock = v.ownBlock ∨ (Value.slice a' N cap).ownBlock = some w.heap.size) → K (a.put o.dst (.slice a' N cap)) w') :
    Oper.wp Try.prog o a w K Q := by
  obtain ⟨a', cap, w', hr, h2, h3, h4⟩ := run_appA w o.type H base v n xs hown ad m c news hnews hl h1 had hnm hbase
  rw [hN] at hr h2 h4
  rw [hys] at h2
  unfold Oper.wp execOp
  simp only [ho, resolve, invoke, builtin, Sem.run_bind, Sem.run_pure, Result.andThen_ok, List.map_toArray, List.map_cons, List.map_nil, hs, hx, hr]
  exact h a' cap w' h2 h3 h4
theorem step_appA (w : World) (hw : Region.wanted o (yielded ops a.tmps) = true) (H : Elem T e size bytes) (s x : Operand)
    (ho : o.op = .call { callee := .builtin .append, args := #[s, x], argTypes := #[T, T] })
    (base : Nat) (v : Value) (n : Nat) (xs : List Value) (hs : a.eval s = v) (hown : w.ownsRow base e size v n xs)
    (ad : Option Addr) (m c : Nat) (news : List Value) (hx : a.eval x = .slice ad m c) (hnews : Vals w ad news) (hl : news.length = m * size) (h1 : ∀ u ∈ news, u.oneCell' = true)
    (had : ad = none → m = 0 ∧ c = 0) (hnm : n + m ≤ 2000000) (hbase : base ≤ w.heap.size) (N : Nat) (hN : n + m = N) (ys : List Value) (hys : xs ++ news = ys)
    (h : ∀ a' cap w', w'.ownsRow base e size (.slice a' N cap) N ys → w.grownBy w' v.ownBlock → ((Value.slice a' N cap).ownBlock = v.ownBlock ∨ (Value.slice a' N cap).ownBlock = some w.heap.size) → K (a.put o.dst (.slice a' N cap)) w') :
    if Region.wanted o (yielded ops a.tmps) = true then Oper.wp Try.prog o a w K Q else E := by
  rw [if_pos hw]
  exact wp_appA w H s x ho base v n xs hs hown ad m c news hx hnews hl h1 had hnm hbase N hN ys hys h
theorem wpl_appA (w : World) (hgd : o.guard = none) (H : Elem T e size bytes) (s x : Operand)
    (ho : o.op = .call { callee := .builtin .append, args := #[s, x], argTypes := #[T, T] })
    (base : Nat) (v : Value) (n : Nat) (xs : List Value) (hs : a.eval s = v) (hown : w.ownsRow base e size v n xs)
    (ad : Option Addr) (m c : Nat) (news : List Value) (hx : a.eval x = .slice ad m c) (hnews : Vals w ad news) (hl : news.length = m * size) (h1 : ∀ u ∈ news, u.oneCell' = true)
    (had : ad = none → m = 0 ∧ c = 0) (hnm : n + m ≤ 2000000) (hbase : base ≤ w.heap.size) (N : Nat) (hN : n + m = N) (ys : List Value) (hys : xs ++ news = ys)
    (h : ∀ a' cap w', w'.ownsRow base e size (.slice a' N cap) N ys → w.grownBy w' v.ownBlock → ((Value.slice a' N cap).ownBlock = v.ownBlock ∨ (Value.slice a' N cap).ownBlock = some w.heap.size) → wpList Try.prog ops Q rest (a.put o.dst (.slice a' N cap)) w') :
    wpList Try.prog ops Q (o :: rest) a w :=
  wpList_plain hgd fun _ hK => wp_appA w H s x ho base v n xs hs hown ad m c news hx hnews hl h1 had hnm hbase N hN ys hys fun a' cap w' h2 h3 h4 => hK _ _ (h a' cap w' h2 h3 h4)
end
theorem ints_one (xs : List Int) : ∀ u ∈ xs.map (Value.int .i64), u.oneCell' = true := by
  intro u hu
  obtain ⟨k, _, rfl⟩ := List.mem_map.1 hu
  rfl
/-- What has turned only an owned row of the call's own has turned nothing that was there. -/
theorem gb_new {w0 w1 w2 : World} {r : Option Nat} (h : w0.grownBy w1 none) (k : w1.grownBy w2 r) (hr : ∀ b, r = some b → w0.heap.size ≤ b) : w0.grownBy w2 none :=
  ⟨k.os.trans h.os, k.tape.trans h.tape, k.output.trans h.output, Nat.le_trans h.size k.size, fun i hi hn => (k.block i (Nat.lt_of_lt_of_le hi h.size) (by
    intro e
    have := hr i e.symm
    omega)).trans (h.block i hi hn)⟩
end Go.Proofs.Ytalalapjanckdaa
