/- Small lemmas on worlds, blocks and rows that many texts want; contracts of 'in', 'isTime'. No condition. -/
import Derived.Test.YtalalapjanckdaaAppA
import Derived.Deep.DeepCutAuto
import Derived.Deep.RegionHeld3
namespace Go.Proofs.Ytalalapjanckdaa
open Go.RowKit
theorem row_wider {w : World} {B B' n : Nat} {e : TypeId} {size : Nat} {v : Value} {vs : List Value} (h : w.ownsRow B e size v n vs) (hB : B' ≤ B) : w.ownsRow B' e size v n vs :=
  ⟨h.1, h.2.imp id fun ⟨g, c, cur, h1, hb, r⟩ => ⟨g, c, cur, h1, Nat.le_trans hB hb, r⟩⟩
theorem gb_setp (w : World) (p : Addr) (u : Value) : w.grownBy (w.setCell p u) (some p.block) :=
  ⟨rfl, rfl, rfl, by simp, fun k _ hk => Below.heap_setCell w p u k (fun e => hk (by rw [e]))⟩
theorem row_set {w : World} {base n : Nat} {e : TypeId} {size : Nat} {v : Value} {vs : List Value} (h : w.ownsRow base e size v n vs) (p : Addr) (u : Value) (hp : v.ownBlock ≠ some p.block) : (w.setCell p u).ownsRow base e size v n vs :=
  row_kept h (gb_setp w p u) fun _ hk e => hp (by rw [hk, e])
theorem Box.three {w : World} {g T : Nat} {a b c : Value} (h : Box w g T [a, b, c]) : w.cell? ⟨g, 0, none⟩ = some a ∧ w.cell? ⟨g, 1, none⟩ = some b ∧ w.cell? ⟨g, 2, none⟩ = some c ∧ ∀ i, w.frozen? ⟨g, i, none⟩ = false :=
  ⟨h.cell 0, h.cell 1, h.cell 2, fun i => h.frozen i⟩
theorem own_some {w : World} {base n cap : Nat} {e : TypeId} {size : Nat} {a : Option Addr} {vs : List Value} {k : Nat} (h : w.ownsRow base e size (.slice a n cap) n vs) (hk : (Value.slice a n cap).ownBlock = some k) : a = some ⟨k, 0, none⟩ := by
  rcases h.2 with ⟨h1, h2⟩ | ⟨g, c, cur, h1, _⟩
  · rw [h1] at hk; simp [Value.ownBlock] at hk
  · injection h1 with h3
    subst h3
    have e2 : some g = some k := hk
    injection e2 with e2
    rw [e2]
theorem q_in (n lo hi : Int) (w : World) :
    Calls Try.prog 63 #[.int .i64 n, .int .i64 lo, .int .i64 hi] w fun e w' => e = .returned (.bool (inB n lo hi)) ∧ w' = w :=
  (c_in n lo hi w).mono fun _ _ ⟨h1, h2⟩ => ⟨h1, h2.symm⟩
theorem q_l1In' (n lo hi : Int) (w : World) :
    Calls Try.prog 73 #[.int .i64 n, .int .i64 lo, .int .i64 hi] w fun e w' => e = .returned (.bool (inB n lo hi)) ∧ w' = w :=
  (c_l1In n lo hi w).mono fun _ _ ⟨h1, h2⟩ => ⟨h1, h2.symm⟩
theorem c_isTime (t : Int) (w : World) : Calls Try.prog 70 #[.int .i64 t] w fun e w' => e = .returned (.bool (inB t 0 100000)) ∧ w = w' := by
  go_enter Try.func70, Try.ntmps70
  go_wp2_with (go_at_call 63; refine (c_in _ _ _ _).mono ?_; rintro e w' ⟨rfl, rfl⟩)
  go_ret
  exact ⟨rfl, rfl⟩
theorem Ints.at {w : World} {a : Option Addr} {xs : List Int} {n k : Nat} (h : Ints w a xs) (hl : xs.length = n) (hk : k < n) :
    ∃ b off, a = some ⟨b, off, none⟩ ∧ b < w.heap.size ∧ ∀ j, j < n → w.cell? ⟨b, off + j, none⟩ = some (.int .i64 (xs.getD j 0)) := by
  rcases h with h | ⟨b, off, ha, hb, hc⟩
  · rw [h] at hl; simp at hl; omega
  · exact ⟨b, off, ha, hb, fun j hj => hc j (by omega)⟩
theorem Ints.set {w : World} {a : Option Addr} {xs : List Int} (h : Ints w a xs) (p : Addr) (u : Value) (hp : ∀ q, a = some q → q.block ≠ p.block) : Ints (w.setCell p u) a xs := by
  rcases h with h | ⟨b, off, ha, hb, hc⟩
  · exact .inl h
  · exact .inr ⟨b, off, ha, by simpa using hb, fun i hi => (World.cell?_of_block (Below.heap_setCell w p u b (hp _ ha))).trans (hc i hi)⟩
theorem own_fresh {w : World} {base n cap : Nat} {e : TypeId} {size : Nat} {a : Option Addr} {vs : List Value} (h : w.ownsRow base e size (.slice a n cap) n vs) : ∀ q, a = some q → base ≤ q.block := by
  intro q hq
  subst hq
  rcases h.2 with ⟨h1, _⟩ | ⟨g', c, cur, h1, hb, _⟩
  · injection h1 with h1; cases h1
  · injection h1 with h1 _ _
    injection h1 with h1
    subst h1
    exact hb
theorem Ints.kept {w w' : World} {a : Option Addr} {xs : List Int} {r : Option Nat} (h : Ints w a xs) (hg : w.grownBy w' r) (hne : ∀ p, a = some p → some p.block ≠ r) : Ints w' a xs := by
  rcases h with h | ⟨b, off, ha, hb, hc⟩
  · exact .inl h
  · exact .inr ⟨b, off, ha, Nat.lt_of_lt_of_le hb hg.size, fun i hi => (World.cell?_of_block (hg.block b hb (hne _ ha))).trans (hc i hi)⟩
theorem Ints.takeW {w : World} {b off : Nat} {xs : List Int} (h : Ints w (some ⟨b, off, none⟩) xs) (k : Nat) : Ints w (some ⟨b, off, none⟩) (xs.take k) := by
  rcases h with h | ⟨b', off', ha, hb, hc⟩
  · exact .inl (by rw [h]; simp)
  · refine .inr ⟨b', off', ha, hb, fun i hi => ?_⟩
    rw [List.length_take] at hi
    rw [hc i (by omega), List.getD_eq_getElem?_getD, List.getD_eq_getElem?_getD, List.getElem?_take, if_pos (by omega)]
theorem Ints.dropW {w : World} {b : Nat} {xs : List Int} (h : Ints w (some ⟨b, 0, none⟩) xs) (k : Nat) : Ints w (some ⟨b, k, none⟩) (xs.drop k) := by
  rcases h with h | ⟨b', off', ha, hb, hc⟩
  · exact .inl (by rw [h]; simp)
  · cases ha
    refine .inr ⟨b, k, rfl, hb, fun i hi => ?_⟩
    rw [List.length_drop] at hi
    have := hc (k + i) (by omega)
    rw [Nat.zero_add] at this
    rw [this, List.getD_eq_getElem?_getD, List.getD_eq_getElem?_getD, List.getElem?_drop]
theorem row_drewN {w : World} {base n : Nat} {e : TypeId} {size : Nat} {v : Value} {vs : List Value} (h : w.ownsRow base e size v n vs) (q : Nat) : (w.drewN q).ownsRow base e size v n vs := h
theorem ints_drewN {w : World} {a : Option Addr} {xs : List Int} (h : Ints w a xs) (q : Nat) : Ints (w.drewN q) a xs := h
theorem own_blk {w : World} {base n cap : Nat} {e : TypeId} {size : Nat} {a : Option Addr} {vs : List Value} (h : w.ownsRow base e size (.slice a n cap) n vs) {g : Nat} (hg : g < base) : ∀ q, a = some q → q.block ≠ g := by
  intro q hq
  subst hq
  rcases h.2 with ⟨h1, _⟩ | ⟨g', c, cur, h1, hb, _⟩
  · injection h1 with h1; cases h1
  · injection h1 with h1 _ _
    injection h1 with h1
    subst h1
    simp; omega
theorem keepS1 {w : World} {b i g : Nat} {v u0 : Value} {j : Nat} (h : w.cell? ⟨b, i, none⟩ = some v) (hb : b ≠ g) : (w.setCell ⟨g, j, none⟩ u0).cell? ⟨b, i, none⟩ = some v :=
  (World.cell?_of_block (Below.heap_setCell _ ⟨g, j, none⟩ u0 b hb)).trans h
theorem keepD0 {w : World} {p : Addr} {v : Value} (h : w.cell? p = some v) : w.drew.cell? p = some v := h
theorem keepS {w : World} {b i g : Nat} {v u0 u1 u2 : Value} (h : w.cell? ⟨b, i, none⟩ = some v) (hb : b ≠ g) : (((w.setCell ⟨g, 0, none⟩ u0).setCell ⟨g, 1, none⟩ u1).setCell ⟨g, 2, none⟩ u2).cell? ⟨b, i, none⟩ = some v :=
  (World.cell?_of_block ((Below.heap_setCell _ ⟨g, 2, none⟩ u2 b hb).trans ((Below.heap_setCell _ ⟨g, 1, none⟩ u1 b hb).trans (Below.heap_setCell _ ⟨g, 0, none⟩ u0 b hb)))).trans h
theorem keepD1 {w : World} {p : Addr} {v : Value} (h : w.cell? p = some v) (o : Obj) : (w.alloc o).drew.cell? p = some v := keep h o
theorem keepD2 {w : World} {p : Addr} {v : Value} (h : w.cell? p = some v) (o o' : Obj) : ((w.alloc o).alloc o').drew.cell? p = some v := keep (keep h o) o'
theorem below_drew {B : Nat} {w w' : World} (h : Below B w w') : Below B w w'.drew := ⟨h.os, h.tape, h.output, h.size, h.block⟩
theorem Box.kept {w w' : World} {g T : Nat} {vs : List Value} {r : Option Nat} (h : Box w g T vs) (hg : w.grownBy w' r) (hne : r ≠ some g) : Box w' g T vs := (hg.block g h.lt (fun e => hne e.symm)).trans h
theorem wp_val2 {Q : Exit → Act → World → Prop} {o : Oper} {d : Tmp} {a : Act} {w w1 : World} {v : Value} {K : Act → World → Prop} (hd : o.dst = some d) (h : (execOp a.eval o).run Try.prog w = .ok (.value v) w1) (hK : K (a.put (some d) v) w1) : Oper.wp Try.prog o a w K Q := by
  unfold Oper.wp
  rw [h]
  have : K (a.put o.dst v) w1 := by rw [hd]; exact hK
  exact this
theorem head1 (w : World) (T : TypeId) (c : List Value) : ∃ W, W = w.alloc (.cells c.toArray T) ∧ Below w.heap.size w W ∧ W.heap.size = w.heap.size + 1 ∧ Box W w.heap.size T c :=
  ⟨_, rfl, (Below.refl _ _).alloc (Nat.le_refl _) _, by simp, Box.new _ _ _⟩
theorem headB (w : World) (T T' : TypeId) (c c' : List Value) : ∃ W, W = (w.alloc (.cells c.toArray T)).alloc (.cells c'.toArray T') ∧
    Below w.heap.size w W ∧ W.heap.size = w.heap.size + 2 ∧ Box W w.heap.size T c ∧ Box W (w.heap.size + 1) T' c' :=
  ⟨_, rfl, ((Below.refl _ _).alloc (Nat.le_refl _) _).alloc (by simp) _, by simp, (Box.new _ _ _).alloc _, Box.new2 _ _ _ _ (by simp)⟩
theorem head3 (w : World) (T T' T'' : TypeId) (c c' c'' : List Value) : ∃ W, W = ((w.alloc (.cells c.toArray T)).alloc (.cells c'.toArray T')).alloc (.cells c''.toArray T'') ∧
    Below w.heap.size w W ∧ W.heap.size = w.heap.size + 3 ∧ Box W w.heap.size T c ∧ Box W (w.heap.size + 1) T' c' ∧ Box W (w.heap.size + 2) T'' c'' :=
  ⟨_, rfl, (((Below.refl _ _).alloc (Nat.le_refl _) _).alloc (by simp) _).alloc (by simp; omega) _, by simp, ((Box.new _ _ _).alloc _).alloc _, (Box.new2 _ _ _ _ (by simp)).alloc _, Box.new2 _ _ _ _ (by simp)⟩
theorem getD_of {hs : List Int} {k : Nat} (h : k < hs.length) : hs.getD k 0 = hs[k] := by
  rw [List.getD_eq_getElem?_getD, List.getElem?_eq_getElem h]; rfl
theorem Box.two {w : World} {g T : Nat} {a b : Value} (h : Box w g T [a, b]) : w.cell? ⟨g, 0, none⟩ = some a ∧ w.cell? ⟨g, 1, none⟩ = some b ∧ ∀ i, w.frozen? ⟨g, i, none⟩ = false :=
  ⟨h.cell 0, h.cell 1, fun i => h.frozen i⟩
theorem Box.five {w : World} {g T : Nat} {a b c d e : Value} (h : Box w g T [a, b, c, d, e]) : w.cell? ⟨g, 0, none⟩ = some a ∧ w.cell? ⟨g, 1, none⟩ = some b ∧ w.cell? ⟨g, 2, none⟩ = some c ∧ w.cell? ⟨g, 3, none⟩ = some d ∧ w.cell? ⟨g, 4, none⟩ = some e ∧ ∀ i, w.frozen? ⟨g, i, none⟩ = false :=
  ⟨h.cell 0, h.cell 1, h.cell 2, h.cell 3, h.cell 4, fun i => h.frozen i⟩
theorem Box.six {w : World} {g T : Nat} {a b c d e f : Value} (h : Box w g T [a, b, c, d, e, f]) : w.cell? ⟨g, 0, none⟩ = some a ∧ w.cell? ⟨g, 1, none⟩ = some b ∧ w.cell? ⟨g, 2, none⟩ = some c ∧ w.cell? ⟨g, 3, none⟩ = some d ∧ w.cell? ⟨g, 4, none⟩ = some e ∧ w.cell? ⟨g, 5, none⟩ = some f ∧ ∀ i, w.frozen? ⟨g, i, none⟩ = false :=
  ⟨h.cell 0, h.cell 1, h.cell 2, h.cell 3, h.cell 4, h.cell 5, fun i => h.frozen i⟩
theorem Box.seven {w : World} {g T : Nat} {a b c d e f k : Value} (h : Box w g T [a, b, c, d, e, f, k]) : w.cell? ⟨g, 0, none⟩ = some a ∧ w.cell? ⟨g, 1, none⟩ = some b ∧ w.cell? ⟨g, 2, none⟩ = some c ∧ w.cell? ⟨g, 3, none⟩ = some d ∧ w.cell? ⟨g, 4, none⟩ = some e ∧ w.cell? ⟨g, 5, none⟩ = some f ∧ w.cell? ⟨g, 6, none⟩ = some k ∧ ∀ i, w.frozen? ⟨g, i, none⟩ = false :=
  ⟨h.cell 0, h.cell 1, h.cell 2, h.cell 3, h.cell 4, h.cell 5, h.cell 6, fun i => h.frozen i⟩
section
variable {ops : Array Oper} {rest : List Oper} {o : Oper} {a : Act} {Q : Exit → Act → World → Prop} {T e : TypeId} {size bytes : Nat}
theorem wpl_appAg (w : World) (hw : Region.wanted o (yielded ops a.tmps) = true) (H : Elem T e size bytes) (s x : Operand)
    (ho : o.op = .call { callee := .builtin .append, args := #[s, x], argTypes := #[T, T] })
    (base : Nat) (v : Value) (n : Nat) (xs : List Value) (hs : a.eval s = v) (hown : w.ownsRow base e size v n xs)
    (ad : Option Addr) (m c : Nat) (news : List Value) (hx : a.eval x = .slice ad m c) (hnews : Vals w ad news) (hl : news.length = m * size) (h1 : ∀ u ∈ news, u.oneCell' = true)
    (had : ad = none → m = 0 ∧ c = 0) (hnm : n + m ≤ 2000000) (hbase : base ≤ w.heap.size) (N : Nat) (hN : n + m = N) (ys : List Value) (hys : xs ++ news = ys)
    (h : ∀ a' cap w', w'.ownsRow base e size (.slice a' N cap) N ys → w.grownBy w' v.ownBlock → ((Value.slice a' N cap).ownBlock = v.ownBlock ∨ (Value.slice a' N cap).ownBlock = some w.heap.size) → wpList Try.prog ops Q rest (a.put o.dst (.slice a' N cap)) w') :
    wpList Try.prog ops Q (o :: rest) a w :=
  wpList_step fun _ hK => by
    rw [if_pos hw]
    exact wp_appA w H s x ho base v n xs hs hown ad m c news hx hnews hl h1 had hnm hbase N hN ys hys fun a' cap w' h2 h3 h4 => hK _ _ (h a' cap w' h2 h3 h4)
end
/-- A row's block is no struct's box. -/
theorem row_ne {w : World} {base n cap : Nat} {e : TypeId} {size : Nat} {a : Option Addr} {vs : List Value} {g : Nat} {T : TypeId} {cs : List Value} (h : w.ownsRow base e size (.slice a n cap) n vs) (hb : Box w g T cs) (ht : T ≠ e) : (Value.slice a n cap).ownBlock ≠ some g := by
  intro hk
  rcases h.2 with ⟨h1, _⟩ | ⟨g', c, cur, h1, _, hg, _⟩
  · rw [h1] at hk; simp [Value.ownBlock] at hk
  · rw [h1] at hk
    have : g' = g := by simpa [Value.ownBlock] using hk
    subst this
    rw [Box, hg] at hb
    injection hb with hb
    injection hb with _ h2 _
    exact ht h2.symm
end Go.Proofs.Ytalalapjanckdaa
