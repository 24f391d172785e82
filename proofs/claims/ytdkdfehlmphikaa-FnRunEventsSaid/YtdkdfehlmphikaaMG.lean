/- Texts laid together (Bas, RegA, RegS, RegR, TyI, TyX, TyW, TyZ, TyM, TyN, RegW, QuC). No condition but what each theorem says. -/
import Derived.Test.YtdkdfehlmphikaaMA
import Derived.Deep.DeepCutAuto
import Derived.Deep.RegionHeld3
/- Small lemmas on worlds, blocks and rows that many texts want; contracts of 'in', 'isTime'. No condition. -/
namespace Go.Proofs.Ytdkdfehlmphikaa
open Go.RowKit
theorem row_wider {w : World} {B B' n : Nat} {e : TypeId} {size : Nat} {v : Value} {vs : List Value} (h : w.ownsRow B e size v n vs) (hB : B' ≤ B) : w.ownsRow B' e size v n vs :=
  ⟨h.1, h.2.imp id fun ⟨g, c, cur, h1, hb, r⟩ => ⟨g, c, cur, h1, Nat.le_trans hB hb, r⟩⟩
theorem gb_setp (w : World) (p : Addr) (u : Value) : w.grownBy (w.setCell p u) (some p.block) :=
  ⟨rfl, rfl, rfl, by simp, fun k _ hk => Below.heap_setCell w p u k (fun e => hk (by rw [e]))⟩
theorem row_set {w : World} {base n : Nat} {e : TypeId} {size : Nat} {v : Value} {vs : List Value} (h : w.ownsRow base e size v n vs) (p : Addr) (u : Value) (hp : v.ownBlock ≠ some p.block) : (w.setCell p u).ownsRow base e size v n vs :=
  row_kept h (gb_setp w p u) fun _ hk e => hp (by rw [hk, e])
theorem Box.three {w : World} {g T : Nat} {a b c : Value} (h : Box w g T [a, b, c]) : w.cell? ⟨g, 0, none⟩ = some a ∧ w.cell? ⟨g, 1, none⟩ = some b ∧ w.cell? ⟨g, 2, none⟩ = some c ∧ ∀ i, w.frozen? ⟨g, i, none⟩ = false :=
  ⟨h.cell 0, h.cell 1, h.cell 2, fun i => h.frozen i⟩
theorem own_some {w : World} {base n cap : Nat} {e : TypeId} {size : Nat} {a : Option Addr} {vs : List Value} {k : Nat} (h : w.ownsRow base e size (.slice a n cap) n vs) (hk : (Value.slice a n cap).ownBlock = some k) : a = some ⟨k, 0, none⟩ := by
  rcases h.2 with ⟨h1, h2⟩ | ⟨g, c, cur, h1, _⟩
  · rw [h1] at hk; simp [Value.ownBlock] at hk
  · injection h1 with h3
    subst h3
    have e2 : some g = some k := hk
    injection e2 with e2
    rw [e2]
theorem q_in (n lo hi : Int) (w : World) :
    Calls Try.prog 63 #[.int .i64 n, .int .i64 lo, .int .i64 hi] w fun e w' => e = .returned (.bool (inB n lo hi)) ∧ w' = w :=
  (c_in n lo hi w).mono fun _ _ ⟨h1, h2⟩ => ⟨h1, h2.symm⟩
theorem q_l1In' (n lo hi : Int) (w : World) :
    Calls Try.prog 87 #[.int .i64 n, .int .i64 lo, .int .i64 hi] w fun e w' => e = .returned (.bool (inB n lo hi)) ∧ w' = w :=
  (c_l1In n lo hi w).mono fun _ _ ⟨h1, h2⟩ => ⟨h1, h2.symm⟩
theorem c_isTime (t : Int) (w : World) : Calls Try.prog 64 #[.int .i64 t] w fun e w' => e = .returned (.bool (inB t 0 100000)) ∧ w = w' := by
  go_enter Try.func64, Try.ntmps64
  go_wp2_with (go_at_call 63; refine (c_in _ _ _ _).mono ?_; rintro e w' ⟨rfl, rfl⟩)
  go_ret
  exact ⟨rfl, rfl⟩
theorem Ints.at {w : World} {a : Option Addr} {xs : List Int} {n k : Nat} (h : Ints w a xs) (hl : xs.length = n) (hk : k < n) :
    ∃ b off, a = some ⟨b, off, none⟩ ∧ b < w.heap.size ∧ ∀ j, j < n → w.cell? ⟨b, off + j, none⟩ = some (.int .i64 (xs.getD j 0)) := by
  rcases h with h | ⟨b, off, ha, hb, hc⟩
  · rw [h] at hl; simp at hl; omega
  · exact ⟨b, off, ha, hb, fun j hj => hc j (by omega)⟩
theorem Ints.set {w : World} {a : Option Addr} {xs : List Int} (h : Ints w a xs) (p : Addr) (u : Value) (hp : ∀ q, a = some q → q.block ≠ p.block) : Ints (w.setCell p u) a xs := by
  rcases h with h | ⟨b, off, ha, hb, hc⟩
  · exact .inl h
  · exact .inr ⟨b, off, ha, by simpa using hb, fun i hi => (World.cell?_of_block (Below.heap_setCell w p u b (hp _ ha))).trans (hc i hi)⟩
theorem own_fresh {w : World} {base n cap : Nat} {e : TypeId} {size : Nat} {a : Option Addr} {vs : List Value} (h : w.ownsRow base e size (.slice a n cap) n vs) : ∀ q, a = some q → base ≤ q.block := by
  intro q hq
  subst hq
  rcases h.2 with ⟨h1, _⟩ | ⟨g', c, cur, h1, hb, _⟩
  · injection h1 with h1; cases h1
  · injection h1 with h1 _ _
    injection h1 with h1
    subst h1
    exact hb
theorem Ints.kept {w w' : World} {a : Option Addr} {xs : List Int} {r : Option Nat} (h : Ints w a xs) (hg : w.grownBy w' r) (hne : ∀ p, a = some p → some p.block ≠ r) : Ints w' a xs := by
  rcases h with h | ⟨b, off, ha, hb, hc⟩
  · exact .inl h
  · exact .inr ⟨b, off, ha, Nat.lt_of_lt_of_le hb hg.size, fun i hi => (World.cell?_of_block (hg.block b hb (hne _ ha))).trans (hc i hi)⟩
theorem Ints.takeW {w : World} {b off : Nat} {xs : List Int} (h : Ints w (some ⟨b, off, none⟩) xs) (k : Nat) : Ints w (some ⟨b, off, none⟩) (xs.take k) := by
  rcases h with h | ⟨b', off', ha, hb, hc⟩
  · exact .inl (by rw [h]; simp)
  · refine .inr ⟨b', off', ha, hb, fun i hi => ?_⟩
    rw [List.length_take] at hi
    rw [hc i (by omega), List.getD_eq_getElem?_getD, List.getD_eq_getElem?_getD, List.getElem?_take, if_pos (by omega)]
theorem Ints.dropW {w : World} {b : Nat} {xs : List Int} (h : Ints w (some ⟨b, 0, none⟩) xs) (k : Nat) : Ints w (some ⟨b, k, none⟩) (xs.drop k) := by
  rcases h with h | ⟨b', off', ha, hb, hc⟩
  · exact .inl (by rw [h]; simp)
  · cases ha
    refine .inr ⟨b, k, rfl, hb, fun i hi => ?_⟩
    rw [List.length_drop] at hi
    have := hc (k + i) (by omega)
    rw [Nat.zero_add] at this
    rw [this, List.getD_eq_getElem?_getD, List.getD_eq_getElem?_getD, List.getElem?_drop]
theorem row_drewN {w : World} {base n : Nat} {e : TypeId} {size : Nat} {v : Value} {vs : List Value} (h : w.ownsRow base e size v n vs) (q : Nat) : (w.drewN q).ownsRow base e size v n vs := h
theorem ints_drewN {w : World} {a : Option Addr} {xs : List Int} (h : Ints w a xs) (q : Nat) : Ints (w.drewN q) a xs := h
theorem own_blk {w : World} {base n cap : Nat} {e : TypeId} {size : Nat} {a : Option Addr} {vs : List Value} (h : w.ownsRow base e size (.slice a n cap) n vs) {g : Nat} (hg : g < base) : ∀ q, a = some q → q.block ≠ g := by
  intro q hq
  subst hq
  rcases h.2 with ⟨h1, _⟩ | ⟨g', c, cur, h1, hb, _⟩
  · injection h1 with h1; cases h1
  · injection h1 with h1 _ _
    injection h1 with h1
    subst h1
    simp; omega
theorem keepS1 {w : World} {b i g : Nat} {v u0 : Value} {j : Nat} (h : w.cell? ⟨b, i, none⟩ = some v) (hb : b ≠ g) : (w.setCell ⟨g, j, none⟩ u0).cell? ⟨b, i, none⟩ = some v :=
  (World.cell?_of_block (Below.heap_setCell _ ⟨g, j, none⟩ u0 b hb)).trans h
theorem keepD0 {w : World} {p : Addr} {v : Value} (h : w.cell? p = some v) : w.drew.cell? p = some v := h
theorem keepS {w : World} {b i g : Nat} {v u0 u1 u2 : Value} (h : w.cell? ⟨b, i, none⟩ = some v) (hb : b ≠ g) : (((w.setCell ⟨g, 0, none⟩ u0).setCell ⟨g, 1, none⟩ u1).setCell ⟨g, 2, none⟩ u2).cell? ⟨b, i, none⟩ = some v :=
  (World.cell?_of_block ((Below.heap_setCell _ ⟨g, 2, none⟩ u2 b hb).trans ((Below.heap_setCell _ ⟨g, 1, none⟩ u1 b hb).trans (Below.heap_setCell _ ⟨g, 0, none⟩ u0 b hb)))).trans h
theorem keepD1 {w : World} {p : Addr} {v : Value} (h : w.cell? p = some v) (o : Obj) : (w.alloc o).drew.cell? p = some v := keep h o
theorem keepD2 {w : World} {p : Addr} {v : Value} (h : w.cell? p = some v) (o o' : Obj) : ((w.alloc o).alloc o').drew.cell? p = some v := keep (keep h o) o'
theorem below_drew {B : Nat} {w w' : World} (h : Below B w w') : Below B w w'.drew := ⟨h.os, h.tape, h.output, h.size, h.block⟩
theorem Box.kept {w w' : World} {g T : Nat} {vs : List Value} {r : Option Nat} (h : Box w g T vs) (hg : w.grownBy w' r) (hne : r ≠ some g) : Box w' g T vs := (hg.block g h.lt (fun e => hne e.symm)).trans h
theorem wp_val2 {Q : Exit → Act → World → Prop} {o : Oper} {d : Tmp} {a : Act} {w w1 : World} {v : Value} {K : Act → World → Prop} (hd : o.dst = some d) (h : (execOp a.eval o).run Try.prog w = .ok (.value v) w1) (hK : K (a.put (some d) v) w1) : Oper.wp Try.prog o a w K Q := by
  unfold Oper.wp
  rw [h]
  have : K (a.put o.dst v) w1 := by rw [hd]; exact hK
  exact this
theorem head1 (w : World) (T : TypeId) (c : List Value) : ∃ W, W = w.alloc (.cells c.toArray T) ∧ Below w.heap.size w W ∧ W.heap.size = w.heap.size + 1 ∧ Box W w.heap.size T c :=
  ⟨_, rfl, (Below.refl _ _).alloc (Nat.le_refl _) _, by simp, Box.new _ _ _⟩
theorem headB (w : World) (T T' : TypeId) (c c' : List Value) : ∃ W, W = (w.alloc (.cells c.toArray T)).alloc (.cells c'.toArray T') ∧
    Below w.heap.size w W ∧ W.heap.size = w.heap.size + 2 ∧ Box W w.heap.size T c ∧ Box W (w.heap.size + 1) T' c' :=
  ⟨_, rfl, ((Below.refl _ _).alloc (Nat.le_refl _) _).alloc (by simp) _, by simp, (Box.new _ _ _).alloc _, Box.new2 _ _ _ _ (by simp)⟩
theorem head3 (w : World) (T T' T'' : TypeId) (c c' c'' : List Value) : ∃ W, W = ((w.alloc (.cells c.toArray T)).alloc (.cells c'.toArray T')).alloc (.cells c''.toArray T'') ∧
    Below w.heap.size w W ∧ W.heap.size = w.heap.size + 3 ∧ Box W w.heap.size T c ∧ Box W (w.heap.size + 1) T' c' ∧ Box W (w.heap.size + 2) T'' c'' :=
  ⟨_, rfl, (((Below.refl _ _).alloc (Nat.le_refl _) _).alloc (by simp) _).alloc (by simp; omega) _, by simp, ((Box.new _ _ _).alloc _).alloc _, (Box.new2 _ _ _ _ (by simp)).alloc _, Box.new2 _ _ _ _ (by simp)⟩
theorem getD_of {hs : List Int} {k : Nat} (h : k < hs.length) : hs.getD k 0 = hs[k] := by
  rw [List.getD_eq_getElem?_getD, List.getElem?_eq_getElem h]; rfl
theorem Box.two {w : World} {g T : Nat} {a b : Value} (h : Box w g T [a, b]) : w.cell? ⟨g, 0, none⟩ = some a ∧ w.cell? ⟨g, 1, none⟩ = some b ∧ ∀ i, w.frozen? ⟨g, i, none⟩ = false :=
  ⟨h.cell 0, h.cell 1, fun i => h.frozen i⟩
theorem Box.five {w : World} {g T : Nat} {a b c d e : Value} (h : Box w g T [a, b, c, d, e]) : w.cell? ⟨g, 0, none⟩ = some a ∧ w.cell? ⟨g, 1, none⟩ = some b ∧ w.cell? ⟨g, 2, none⟩ = some c ∧ w.cell? ⟨g, 3, none⟩ = some d ∧ w.cell? ⟨g, 4, none⟩ = some e ∧ ∀ i, w.frozen? ⟨g, i, none⟩ = false :=
  ⟨h.cell 0, h.cell 1, h.cell 2, h.cell 3, h.cell 4, fun i => h.frozen i⟩
theorem Box.six {w : World} {g T : Nat} {a b c d e f : Value} (h : Box w g T [a, b, c, d, e, f]) : w.cell? ⟨g, 0, none⟩ = some a ∧ w.cell? ⟨g, 1, none⟩ = some b ∧ w.cell? ⟨g, 2, none⟩ = some c ∧ w.cell? ⟨g, 3, none⟩ = some d ∧ w.cell? ⟨g, 4, none⟩ = some e ∧ w.cell? ⟨g, 5, none⟩ = some f ∧ ∀ i, w.frozen? ⟨g, i, none⟩ = false :=
  ⟨h.cell 0, h.cell 1, h.cell 2, h.cell 3, h.cell 4, h.cell 5, fun i => h.frozen i⟩
theorem Box.seven {w : World} {g T : Nat} {a b c d e f k : Value} (h : Box w g T [a, b, c, d, e, f, k]) : w.cell? ⟨g, 0, none⟩ = some a ∧ w.cell? ⟨g, 1, none⟩ = some b ∧ w.cell? ⟨g, 2, none⟩ = some c ∧ w.cell? ⟨g, 3, none⟩ = some d ∧ w.cell? ⟨g, 4, none⟩ = some e ∧ w.cell? ⟨g, 5, none⟩ = some f ∧ w.cell? ⟨g, 6, none⟩ = some k ∧ ∀ i, w.frozen? ⟨g, i, none⟩ = false :=
  ⟨h.cell 0, h.cell 1, h.cell 2, h.cell 3, h.cell 4, h.cell 5, h.cell 6, fun i => h.frozen i⟩
section
variable {ops : Array Oper} {rest : List Oper} {o : Oper} {a : Act} {Q : Exit → Act → World → Prop} {T e : TypeId} {size bytes : Nat}
theorem wpl_appAg (w : World) (hw : Region.wanted o (yielded ops a.tmps) = true) (H : Elem T e size bytes) (s x : Operand)
    (ho : o.op = .call { callee := .builtin .append, args := #[s, x], argTypes := #[T, T] })
    (base : Nat) (v : Value) (n : Nat) (xs : List Value) (hs : a.eval s = v) (hown : w.ownsRow base e size v n xs)
    (ad : Option Addr) (m c : Nat) (news : List Value) (hx : a.eval x = .slice ad m c) (hnews : Vals w ad news) (hl : news.length = m * size) (h1 : ∀ u ∈ news, u.oneCell' = true)
    (had : ad = none → m = 0 ∧ c = 0) (hnm : n + m ≤ 2000000) (hbase : base ≤ w.heap.size) (N : Nat) (hN : n + m = N) (ys : List Value) (hys : xs ++ news = ys)
    (h : ∀ a' cap w', w'.ownsRow base e size (.slice a' N cap) N ys → w.grownBy w' v.ownBlock → ((Value.slice a' N cap).ownBlock = v.ownBlock ∨ (Value.slice a' N cap).ownBlock = some w.heap.size) → wpList Try.prog ops Q rest (a.put o.dst (.slice a' N cap)) w') :
    wpList Try.prog ops Q (o :: rest) a w :=
  wpList_step fun _ hK => by
    rw [if_pos hw]
    exact wp_appA w H s x ho base v n xs hs hown ad m c news hx hnews hl h1 had hnm hbase N hN ys hys fun a' cap w' h2 h3 h4 => hK _ _ (h a' cap w' h2 h3 h4)
end
/-- A row's block is no struct's box. -/
theorem row_ne {w : World} {base n cap : Nat} {e : TypeId} {size : Nat} {a : Option Addr} {vs : List Value} {g : Nat} {T : TypeId} {cs : List Value} (h : w.ownsRow base e size (.slice a n cap) n vs) (hb : Box w g T cs) (ht : T ≠ e) : (Value.slice a n cap).ownBlock ≠ some g := by
  intro hk
  rcases h.2 with ⟨h1, _⟩ | ⟨g', c, cur, h1, _, hg, _⟩
  · rw [h1] at hk; simp [Value.ownBlock] at hk
  · rw [h1] at hk
    have : g' = g := by simpa [Value.ownBlock] using hk
    subst this
    rw [Box, hg] at hb
    injection hb with hb
    injection hb with _ h2 _
    exact ht h2.symm
end Go.Proofs.Ytdkdfehlmphikaa
/- Regions that draw their order and whose operations make memory: each slot's fact stays true whatever the others do, so the order does not matter. No condition. -/
namespace Go.Proofs.Ytdkdfehlmphikaa
open Go.RowKit
/-- What is said of a slot. -/
inductive SP where
  | val (v : Value)
  | row (B : Nat) (e : TypeId) (size n : Nat) (vs : List Value) (f : Value → Value)
  | bx (B : Nat) (T : TypeId) (cs : List Value)
  | any
def SP.Has : SP → Value → World → Prop
  | .val u, v, _ => v = u
  | .row B e size n vs f, v, w => ∃ (a : Option Addr) (c : Nat), v = f (.slice a n c) ∧ w.ownsRow B e size (.slice a n c) n vs
  | .bx B T cs, v, w => ∃ g, v = .pointer (some ⟨g, 0, none⟩) ∧ B ≤ g ∧ Box w g T cs
  | .any, _, _ => True
theorem SP.stable (s : SP) {v : Value} {w w' : World} (h : s.Has v w) (hb : Below w.heap.size w w') : s.Has v w' := by
  cases s with
  | val u => exact h
  | row B e size n vs f =>
    obtain ⟨a, c, h1, h2⟩ := h
    exact ⟨a, c, h1, row_below h2 hb⟩
  | bx B T cs =>
    obtain ⟨g, h1, h2, h3⟩ := h
    exact ⟨g, h1, h2, h3.keep hb⟩
  | any => trivial
def spAt : List (Tmp × SP) → Tmp → SP
  | [], _ => .any
  | (s, p) :: r, d => if d = s then p else spAt r d
/-- What an operation of such a region is asked. -/
def OpAny (l : List Oper) (n : Nat) (a0 : Act) (w0 : World) (tys : List (Tmp × SP)) (Q : Exit → Act → World → Prop) (_ : Nat) (o : Oper) : Prop :=
  ∀ a w, (∀ s, isDst l.toArray n s = false → a.tmps.getD s undef = a0.tmps.getD s undef) →
     (∀ s, (o.after.any fun e => Region.binds .any e && decide (dstOf l.toArray e.on = some s)) = true → (spAt tys s).Has (a.tmps.getD s undef) w) → Below w0.heap.size w0 w →
     ∃ d, o.dst = some d ∧ Oper.wp Try.prog o a w (fun a' w' => ∃ v, a' = a.put (some d) v ∧ (spAt tys d).Has v w' ∧ Below w.heap.size w w') Q
theorem region_any {id : Nat} {a0 : Act} {w0 : World} {Q : Exit → Act → World → Prop} (l : List Oper) (n size : Nat) (ds : List Tmp) (tys : List (Tmp × SP)) (hsize : a0.tmps.size = size)
    (hok : (regOkG l.toArray size n && decide (ds = (List.range n).filterMap (dstOf l.toArray))) = true)
    (hop : AllOps (OpAny l n a0 w0 tys Q) 0 (l.take n))
    (htail : ∀ (f : Tmp → Value) (w : World), (∀ d, d ∈ ds → (spAt tys d).Has (f d) w) → Below w0.heap.size w0 w → wpList Try.prog l.toArray Q (l.drop n) (putL ds f a0) w) :
    (Code.region id l.toArray true).wp Try.prog Q a0 w0 := by
  simp only [Bool.and_eq_true, decide_eq_true_eq] at hok
  obtain ⟨h1, hds⟩ := hok
  have hmemds : ∀ s, s ∈ ds ↔ ∃ j, j < n ∧ dstOf l.toArray j = some s := fun s => by
    rw [hds, List.mem_filterMap]
    exact ⟨fun ⟨j, hj, e⟩ => ⟨j, List.mem_range.1 hj, e⟩, fun ⟨j, hj, e⟩ => ⟨j, List.mem_range.2 hj, e⟩⟩
  have hdr : Below w0.heap.size w0 w0.drew := (Below.refl _ _).drew
  refine region_typedG (G := fun w w' => Below w.heap.size w w') (T := fun d => (spAt tys d).Has) (F := fun _ _ => True) (W := fun _ _ => True) (fun a => Below.refl _ _) (fun a b c h k => Below.step h k h.size) (by kernel_rfl) l n size hsize h1
    (fun d v w w' hh hg => SP.stable _ hh hg) (fun _ _ _ _ _ => trivial) trivial ?_ ?_
  · have hall : ∀ (m : Nat) (r : List Oper), AllOps (OpAny l n a0 w0 tys Q) m r → AllOps (fun i o => ∀ k a w, k < n → a.defers = a0.defers → (∀ s, (∀ j, j < n → dstOf l.toArray j ≠ some s) → a.tmps.getD s undef = a0.tmps.getD s undef) →
      (∀ s, (∃ e ∈ o.after, Region.binds .any e = true ∧ dstOf l.toArray e.on = some s) → (spAt tys s).Has (a.tmps.getD s undef) w) → Below w0.drew.heap.size w0.drew w → True →
      Oper.wp Try.prog o a w (PostG (fun w w' => Below w.heap.size w w') (fun d => (spAt tys d).Has) (fun _ _ => True) (fun _ _ => True) k i o a w) Q) m r := by
      intro m r
      induction r generalizing m with
      | nil => intro _; trivial
      | cons o r ih =>
        rintro ⟨ho, hr⟩
        refine ⟨?_, ih _ hr⟩
        intro k a w _ _ hfrm hdep hgr _
        obtain ⟨d, hd, hwp⟩ := ho a w (fun s hs => hfrm s fun j hj hjs => by
            have : isDst l.toArray n s = true := List.any_eq_true.2 ⟨j, List.mem_range.2 hj, by simpa using hjs⟩
            rw [this] at hs; cases hs) (fun s hs => by
            obtain ⟨e, he, hb⟩ := Array.any_eq_true'.1 hs
            simp only [Bool.and_eq_true, decide_eq_true_eq] at hb
            exact hdep s ⟨e, he, hb.1, hb.2⟩) (Below.step hdr hgr hdr.size)
        refine Oper.wp_mono (fun a' w' hg => ?_) hwp
        obtain ⟨v, ha, hT, hgg⟩ := hg
        refine ⟨hgg, trivial, ?_⟩
        rw [hd]
        exact ⟨v, ha, hT⟩
    exact hall 0 _ hop
  · intro a w hsz hdef hfrm htyp _ hgr _
    have hpe := putL_eq (ds := ds) (a0 := a0) (a := a) (by rw [hsz, hsize]) hdef (fun s hs => hfrm s (fun j hj hjs => hs ((hmemds s).2 ⟨j, hj, hjs⟩)))
    rw [← hpe]
    exact htail (fun d => a.tmps.getD d undef) w (fun d hd => by
      obtain ⟨j, hj, hjs⟩ := (hmemds d).1 hd
      exact htyp j d hj hjs) (Below.step hdr hgr hdr.size)
/-- A call, by its contract. -/
theorem op_call {Q : Exit → Act → World → Prop} {o : Oper} {d : Tmp} {a : Act} {w : World} {K : Act → World → Prop} {F : FuncId} {vals : Array Value} (hd : o.dst = some d) (hr : (execOp a.eval o).run Try.prog w = .ok (.enter F vals) w)
    (h : Calls Try.prog F vals w fun e w' => ∃ v, e = .returned v ∧ K (a.put (some d) v) w') : Oper.wp Try.prog o a w K Q := by
  unfold Oper.wp
  rw [hr]
  refine h.mono ?_
  rintro e w' ⟨v, rfl, hK⟩
  rw [hd]
  exact hK
/-- What is yielded while the world stays. -/
theorem op_val {l : List Oper} {n : Nat} {a0 : Act} {w0 : World} {tys : List (Tmp × SP)} {Q : Exit → Act → World → Prop} {o : Oper} {d : Tmp} (hd : o.dst = some d) (v : Value)
    (h : ∀ (a : Act) (w : World), (∀ s, isDst l.toArray n s = false → a.tmps.getD s undef = a0.tmps.getD s undef) → (∀ s, (o.after.any fun e => Region.binds .any e && decide (dstOf l.toArray e.on = some s)) = true → (spAt tys s).Has (a.tmps.getD s undef) w) → Below w0.heap.size w0 w →
      (execOp a.eval o).run Try.prog w = .ok (.value v) w ∧ (spAt tys d).Has v w) (k : Nat) : OpAny l n a0 w0 tys Q k o := fun a w h1 h2 h3 =>
  ⟨d, hd, wp_val2 hd (h a w h1 h2 h3).1 ⟨v, rfl, (h a w h1 h2 h3).2, Below.refl _ _⟩⟩
/-- A box is laid. -/
theorem op_alloc {l : List Oper} {n : Nat} {a0 : Act} {w0 : World} {tys : List (Tmp × SP)} {Q : Exit → Act → World → Prop} {o : Oper} {d : Tmp} (hd : o.dst = some d) (T : TypeId) (cs : List Value) (B : Nat) (hB : B ≤ w0.heap.size) (ht : spAt tys d = .bx B T cs)
    (h : ∀ (ρ : Operand → Value) (w : World), (execOp ρ o).run Try.prog w = .ok (.value (.pointer (some ⟨w.heap.size, 0, none⟩))) (w.alloc (.cells cs.toArray T))) (k : Nat) : OpAny l n a0 w0 tys Q k o := fun a w _ _ h3 =>
  ⟨d, hd, wp_val2 hd (h a.eval w) ⟨_, rfl, by rw [ht]; exact ⟨w.heap.size, rfl, Nat.le_trans hB h3.size, Box.new _ _ _⟩, (Below.refl _ _).alloc (Nat.le_refl _) _⟩⟩
end Go.Proofs.Ytdkdfehlmphikaa
/- The law of RegG once more, where a store's place is made inside the region: what it leaves may name slots. And, over it, regions whose operations make memory and store structs into new boxes. No condition. -/
namespace Go.Proofs.Ytdkdfehlmphikaa
open Go Go.RowKit
section
variable {P : Program} {ops : Array Oper} {Q : Exit → Act → World → Prop}
/-- The state in the middle of the region. -/
structure RInvS (ops : Array Oper) (n : Nat) (a0 : Act) (w0 : World) (G : World → World → Prop) (T : Tmp → Value → World → Prop) (F : Nat → Act → World → Prop) (W : Nat → World → Prop) (listed : Array Bool) (k : Nat) (a : Act) (w : World) : Prop where
  head : HeadInv .any ops n listed
  size : a.tmps.size = a0.tmps.size
  defers : a.defers = a0.defers
  frame : ∀ s, (∀ i, i < n → dstOf ops i ≠ some s) → a.tmps.getD s undef = a0.tmps.getD s undef
  typed : ∀ i d, i < n → dstOf ops i = some d → listed.getD i false = true → T d (a.tmps.getD d undef) w
  stored : ∀ i o, i < n → ops[i]? = some o → o.dst = none → listed.getD i false = true → F i a w
  grown : G w0 w
  cnt : W k w
/-- What an operation of the head leaves. -/
def PostS (G : World → World → Prop) (T : Tmp → Value → World → Prop) (F : Nat → Act → World → Prop) (W : Nat → World → Prop) (k i : Nat) (o : Oper) (a : Act) (w : World) (a' : Act) (w' : World) : Prop :=
  G w w' ∧ W (k + 1) w' ∧ match o.dst with | some d => ∃ v, a' = a.put (some d) v ∧ T d v w' | none => a' = a ∧ F i a w'
theorem wpAny_typedS {n : Nat} {a0 : Act} {w0 : World} {G : World → World → Prop} {T : Tmp → Value → World → Prop} {F : Nat → Act → World → Prop} {W : Nat → World → Prop} (hGt : ∀ a b c, G a b → G b c → G a c) (l : List Oper) (hl : ops = l.toArray) (hn : n < ops.size)
    (hs : Region.sinkB .any ops n = true) (hc : Region.chainB .any ops n = true) (hok : headOkG ops a0.tmps.size n = true)
    (hseq : Region.seqB .any ops (ops.size - n) n (Array.replicate n true ++ Array.replicate (ops.size - n) false) = true)
    (hT : ∀ d v w w', T d v w → G w w' → T d v w') (hF : ∀ i o a a' w w', i < n → ops[i]? = some o → o.dst = none → F i a w → G w w' → (∀ s, (∃ e ∈ o.after, Region.binds .any e = true ∧ dstOf ops e.on = some s) → a'.tmps.getD s undef = a.tmps.getD s undef) → F i a' w')
    (hop : ∀ i o, i < n → ops[i]? = some o → ∀ k a w, k < n → a.defers = a0.defers → (∀ s, (∀ j, j < n → dstOf ops j ≠ some s) → a.tmps.getD s undef = a0.tmps.getD s undef) →
      (∀ s, (∃ e ∈ o.after, Region.binds .any e = true ∧ dstOf ops e.on = some s) → T s (a.tmps.getD s undef) w) → G w0 w → W k w →
      Oper.wp P o a w (PostS G T F W k i o a w) Q)
    (htail : ∀ a w, a.tmps.size = a0.tmps.size → a.defers = a0.defers → (∀ s, (∀ j, j < n → dstOf ops j ≠ some s) → a.tmps.getD s undef = a0.tmps.getD s undef) →
      (∀ i d, i < n → dstOf ops i = some d → T d (a.tmps.getD d undef) w) → (∀ i o, i < n → ops[i]? = some o → o.dst = none → F i a w) → G w0 w → W n w → wpList P ops Q (l.drop n) a w) :
    ∀ (m : Nat) (L : List Nat) (listed : Array Bool) (k : Nat) (a : Act) (w : World), L.Nodup → L.length = m → (∀ i, i ∈ L ↔ (i < n ∧ listed.getD i true = false)) → k + m = n →
      RInvS ops n a0 w0 G T F W listed k a w → wpAny P .any ops Q (m + (ops.size - n)) listed a w := by
  intro m
  induction m with
  | zero =>
    intro L listed k a w _ hL hmem hk inv
    have hnil : L = [] := List.length_eq_zero_iff.1 hL
    subst hnil
    have hall : ∀ i, i < n → listed.getD i false = true := fun i hi => by
      have h1 : ¬ (i < n ∧ listed.getD i true = false) := fun h => by have := (hmem i).2 h; cases this
      have hsz : i < listed.size := by rw [inv.head.size]; omega
      cases hb : listed[i]'hsz with
      | true => simp [hsz, hb]
      | false => exact absurd ⟨hi, by simp [hsz, hb]⟩ h1
    have hlist : listed = Array.replicate n true ++ Array.replicate (ops.size - n) false := by
      apply Array.ext
      · simp [inv.head.size]; omega
      · intro i h1 h2
        by_cases hi : i < n
        · have := hall i hi
          simp only [Array.getD_eq_getD_getElem?, Array.getElem?_eq_getElem h1, Option.getD_some] at this
          rw [this, Array.getElem_append_left (by simpa using hi)]; simp
        · have := inv.head.tail i (by omega) (by rw [inv.head.size] at h1; exact h1)
          simp only [Array.getD_eq_getD_getElem?, Array.getElem?_eq_getElem h1, Option.getD_some] at this
          rw [this, Array.getElem_append_right (by simpa using hi)]; simp
    obtain rfl : k = n := by omega
    have hw := htail a w inv.size inv.defers inv.frame (fun i d hi hd => inv.typed i d hi hd (hall i hi)) (fun i o hi ho hd => inv.stored i o hi ho hd (hall i hi)) inv.grown inv.cnt
    rw [hlist]
    have hlen : (l.drop k).length = ops.size - k := by rw [hl]; simp
    have := wpAny_of_seq (md := .any) (Q' := Q) (P := P) (ops := ops) (l.drop k) k (Array.replicate k true ++ Array.replicate (ops.size - k) false) a w (fun j => by rw [hl]; simp [List.getElem?_drop]) (by rw [hlen]; exact hseq) hw
    rw [hlen] at this
    rw [Nat.zero_add]
    exact this
  | succ m ih =>
    intro L listed k a w hnd hL hmem hk inv
    rw [show m + 1 + (ops.size - n) = (m + (ops.size - n)) + 1 from by omega]
    -- some operation of the head is open
    have hopen : ∃ i, i < n ∧ listed.getD i true = false := by
      cases hLL : L with
      | nil => rw [hLL] at hL; cases hL
      | cons i r => exact ⟨i, (hmem i).1 (by rw [hLL]; simp)⟩
    have hleast : ∃ i, i < n ∧ listed.getD i true = false ∧ ∀ j, j < i → listed.getD j true ≠ false := by
      obtain ⟨i0, hi0⟩ := hopen
      have : ∀ b i, i ≤ b → i < n → listed.getD i true = false → ∃ i, i < n ∧ listed.getD i true = false ∧ ∀ j, j < i → listed.getD j true ≠ false := by
        intro b
        induction b with
        | zero => intro i hi h1 h2; exact ⟨i, h1, h2, fun j hj => by omega⟩
        | succ b ihb =>
          intro i hi h1 h2
          by_cases h : ∃ j, j < i ∧ listed.getD j true = false
          · obtain ⟨j, hj, hj2⟩ := h; exact ihb j (by omega) (by omega) hj2
          · exact ⟨i, h1, h2, fun j hj hj2 => h ⟨j, hj, hj2⟩⟩
      exact this i0 i0 (Nat.le_refl _) hi0.1 hi0.2
    obtain ⟨i1, hi1, hu1, hmin⟩ := hleast
    have hr1 : i1 ∈ Region.ready .any ops listed := by
      obtain ⟨o, ho, _, _, haft⟩ := headOk_specG hok hi1
      refine mem_ready.2 ⟨hu1, o, ho, fun e he hb => ?_⟩
      have := hmin e.on (haft e he hb)
      have hsz : e.on < listed.size := by rw [inv.head.size]; have := haft e he hb; omega
      simp only [Array.getD_eq_getD_getElem?, Array.getElem?_eq_getElem hsz, Option.getD_some] at this ⊢
      simpa using this
    refine ⟨fun h0 => (by rw [h0] at hr1; cases hr1), fun i hi => ?_⟩
    have hin : i < n := by
      rcases Nat.lt_or_ge i n with h | h
      · exact h
      · exact absurd hi (tail_waits hs hc hn inv.head _ i1 rfl hi1 hu1 i h)
    obtain ⟨hui, oi, hoi, hall⟩ := mem_ready.1 hi
    obtain ⟨o, ho, hg, hdd, haft⟩ := headOk_specG hok hin
    obtain rfl : oi = o := Option.some.inj (hoi.symm.trans ho)
    have hstep := hop i oi hin ho k a w (by omega) inv.defers inv.frame (fun s ⟨e, he, hb, hes⟩ => inv.typed e.on s (by have := haft e he hb; omega) hes (hall e he hb)) inv.grown inv.cnt
    have hw : wpOp P ops Q i (PostS G T F W k i oi a w) a w := by
      unfold wpOp
      simp only [ho]
      rw [if_pos (by simp [Region.wanted, hg])]
      exact .inl hstep
    refine wpOp_mono (fun a' w' hh => ?_) hw
    obtain ⟨hgr, hW, hh⟩ := hh
    have hmem' : ∀ j, j ∈ L.erase i ↔ (j < n ∧ (listed.setIfInBounds i true).getD j true = false) := by
      intro j
      rw [hnd.mem_erase_iff, hmem j]
      by_cases hji : j = i
      · subst hji
        have hsz : j < listed.size := by rw [inv.head.size]; omega
        simp [hsz]
      · rw [getD_set_ne true (fun h => hji h.symm)]
        exact ⟨fun h => h.2, fun h => ⟨hji, h⟩⟩
    have hlen' : (L.erase i).length = m := by rw [List.length_erase_of_mem ((hmem i).2 ⟨hin, hui⟩), hL]; rfl
    cases hd : oi.dst with
    | none =>
      simp only [hd] at hh
      obtain ⟨rfl, hF'⟩ := hh
      refine ih (L.erase i) (listed.setIfInBounds i true) (k + 1) _ w' (hnd.erase i) hlen' hmem' (by omega) ⟨inv.head.set hi hin, inv.size, inv.defers, inv.frame, ?_, ?_, hGt _ _ _ inv.grown hgr, hW⟩
      · intro j s hj hjs hlj
        by_cases hji : j = i
        · subst hji
          simp [dstOf, ho, hd] at hjs
        · rw [getD_set_ne false (fun h => hji h.symm)] at hlj
          exact hT _ _ _ _ (inv.typed j s hj hjs hlj) hgr
      · intro j oj hj hoj hdj hlj
        by_cases hji : j = i
        · subst hji
          exact hF'
        · rw [getD_set_ne false (fun h => hji h.symm)] at hlj
          exact hF j oj _ _ _ _ hj hoj hdj (inv.stored j oj hj hoj hdj hlj) hgr (fun _ _ => rfl)
    | some d =>
      simp only [hd] at hh
      obtain ⟨v, rfl, hTv⟩ := hh
      obtain ⟨hds, hdist⟩ := hdd d hd
      have hdi : dstOf ops i = some d := by simp [dstOf, ho, hd]
      have hne : ∀ j s, j < n → j ≠ i → dstOf ops j = some s → s ≠ d := by
        intro j s hj hji hjs hsd
        subst hsd
        rcases Nat.lt_or_gt_of_ne hji with h | h
        · exact hdist j h hjs
        · obtain ⟨oj, hoj, _, hdj, _⟩ := headOk_specG hok hj
          have e1 : oj.dst = some s := by simpa [dstOf, hoj] using hjs
          exact (hdj s e1).2 i h hdi
      refine ih (L.erase i) (listed.setIfInBounds i true) (k + 1) _ w' (hnd.erase i) hlen' hmem' (by omega) ⟨inv.head.set hi hin, ?_, ?_, ?_, ?_, ?_, hGt _ _ _ inv.grown hgr, hW⟩
      · simp [Act.put, inv.size]
      · exact inv.defers
      · intro s hs'
        rw [getD_put (fun h => hs' i hin (by rw [hdi, h]))]
        exact inv.frame s hs'
      · intro j s hj hjs hlj
        by_cases hji : j = i
        · subst hji
          rw [hdi] at hjs
          injection hjs with e
          subst e
          rw [getD_put_same (by rw [inv.size]; exact hds)]
          exact hTv
        · rw [getD_put (hne j s hj hji hjs)]
          rw [getD_set_ne false (fun h => hji h.symm)] at hlj
          exact hT _ _ _ _ (inv.typed j s hj hjs hlj) hgr
      · intro j oj hj hoj hdj hlj
        by_cases hji : j = i
        · subst hji
          rw [hoj] at ho
          injection ho with e
          rw [e, hd] at hdj
          cases hdj
        · rw [getD_set_ne false (fun h => hji h.symm)] at hlj
          refine hF j oj _ _ _ _ hj hoj hdj (inv.stored j oj hj hoj hdj hlj) hgr (fun s ⟨e, he, hb, hes⟩ => ?_)
          have hle := inv.head.closed j oj hoj hlj e he hb
          have hen : e.on < n := by
            obtain ⟨o2, ho2, _, _, haft2⟩ := headOk_specG hok hj
            have : o2 = oj := Option.some.inj (ho2.symm.trans hoj)
            subst this
            have := haft2 e he hb
            omega
          have hei : e.on ≠ i := by
            intro h
            rw [h] at hle
            rw [getD_both hui] at hle
            cases hle
          exact getD_put (hne e.on s hen hei hes)
theorem region_typedS {id : Nat} {a0 : Act} {w0 : World} {G : World → World → Prop} {T : Tmp → Value → World → Prop} {F : Nat → Act → World → Prop} {W : Nat → World → Prop} (hGr : ∀ a, G a a) (hGt : ∀ a b c, G a b → G b c → G a c) (hm : P.follows .mixedOrders = true) (l : List Oper) (n size : Nat) (hsize : a0.tmps.size = size) (hok : regOkG l.toArray size n = true)
    (hT : ∀ d v w w', T d v w → G w w' → T d v w') (hF : ∀ i o a a' w w', i < n → l.toArray[i]? = some o → o.dst = none → F i a w → G w w' → (∀ s, (∃ e ∈ o.after, Region.binds .any e = true ∧ dstOf l.toArray e.on = some s) → a'.tmps.getD s undef = a.tmps.getD s undef) → F i a' w') (h0 : W 0 w0.drew)
    (hop : AllOps (fun i o => ∀ k a w, k < n → a.defers = a0.defers → (∀ s, (∀ j, j < n → dstOf l.toArray j ≠ some s) → a.tmps.getD s undef = a0.tmps.getD s undef) →
      (∀ s, (∃ e ∈ o.after, Region.binds .any e = true ∧ dstOf l.toArray e.on = some s) → T s (a.tmps.getD s undef) w) → G w0.drew w → W k w →
      Oper.wp P o a w (PostS G T F W k i o a w) Q) 0 (l.take n))
    (htail : ∀ a w, a.tmps.size = size → a.defers = a0.defers → (∀ s, (∀ j, j < n → dstOf l.toArray j ≠ some s) → a.tmps.getD s undef = a0.tmps.getD s undef) →
      (∀ i d, i < n → dstOf l.toArray i = some d → T d (a.tmps.getD d undef) w) → (∀ i o, i < n → l.toArray[i]? = some o → o.dst = none → F i a w) → G w0.drew w → W n w → wpList P l.toArray Q (l.drop n) a w) :
    (Code.region id l.toArray true).wp P Q a0 w0 := by
  subst hsize
  simp only [regOkG, Bool.and_eq_true, decide_eq_true_eq] at hok
  obtain ⟨⟨⟨⟨hn, hs⟩, hc⟩, hh⟩, hseq⟩ := hok
  refine wp_region_any hm ?_
  have inv0 : HeadInv .any l.toArray n (Array.replicate l.toArray.size false) :=
    ⟨by simp, fun j oj _ hl => (by rw [getD_replicate_false] at hl; cases hl), fun t _ ht => getD_in (by simpa using ht) (getD_replicate_false _ _)⟩
  have H := wpAny_typedS (P := P) (Q := Q) (a0 := a0) (w0 := w0.drew) (F := F) hGt l rfl hn hs hc hh hseq hT hF
    (fun i o hi ho k a w hk => by
      have hl : (l.take n)[i]? = some o := by rw [List.getElem?_take, if_pos hi]; simpa using ho
      have := hop.get hl
      rw [Nat.zero_add] at this
      exact this k a w hk)
    htail n (List.range n) (Array.replicate l.toArray.size false) 0 a0 w0.drew List.nodup_range (by simp) (fun i => by
      rw [List.mem_range]
      refine ⟨fun hi => ⟨hi, getD_in (by simp; simp at hn; omega) (getD_replicate_false _ _)⟩, fun h => h.1⟩) (by omega)
    ⟨inv0, rfl, rfl, fun _ _ => rfl, fun i d _ _ hl => (by rw [getD_replicate_false] at hl; cases hl), fun i o _ _ _ hl => (by rw [getD_replicate_false] at hl; cases hl), hGr _, h0⟩
  rw [show n + (l.toArray.size - n) = l.toArray.size from by omega] at H
  exact H
end
/-- A box that is made and stored into inside a region: its slot, its type, what it holds when new, what is said of the value that is stored. -/
structure BS where
  slot : Tmp
  T : TypeId
  cs0 : List Value
  src : SP
/-- How the world may turn: what is new of a box's type may be stored into. -/
structure GS (B0 : Nat) (S : List BS) (w w' : World) : Prop where
  os : w'.os = w.os
  tape : w'.tape = w.tape
  output : w'.output = w.output
  size : w.heap.size ≤ w'.heap.size
  block : ∀ b, b < w.heap.size → w'.heap[b]? = w.heap[b]? ∨ (B0 ≤ b ∧ ∃ s ∈ S, ∃ cs u, Box w b s.T cs ∧ Box w' b s.T u.cells.toList ∧ s.src.Has u w')
theorem GS.below {B0 : Nat} {S : List BS} {w w' : World} (h : GS B0 S w w') : Below B0 w w' ∨ w.heap.size < B0 := by
  rcases Nat.lt_or_ge w.heap.size B0 with h' | h'
  · exact .inr h'
  · refine .inl ⟨h.os, h.tape, h.output, h.size, fun b hb => ?_⟩
    rcases h.block b (by omega) with h1 | ⟨h1, _⟩
    · exact h1
    · omega
theorem gs_of {B0 : Nat} {S : List BS} {w w' : World} (h : Below w.heap.size w w') : GS B0 S w w' := ⟨h.os, h.tape, h.output, h.size, fun b hb => .inl (h.block b hb)⟩
/-- What is said of a slot stays true, whatever is stored into new boxes. -/
def spFree (S : List BS) : SP → Bool
  | .val _ => true
  | .row _ e _ _ _ _ => S.all fun s => decide (s.T ≠ e)
  | .bx _ T _ => S.all fun s => decide (s.T ≠ T)
  | .any => true
theorem box_type {w : World} {b T T' : Nat} {cs cs' : List Value} (h : Box w b T cs) (h' : Box w b T' cs') : T = T' := by
  rw [Box, h'] at h
  injection h with h
  injection h with _ h2 _
  exact h2.symm
theorem SP.free {B0 : Nat} {S : List BS} {s : SP} (hf : spFree S s = true) {v : Value} {w w' : World} (h : s.Has v w) (hg : GS B0 S w w') : s.Has v w' := by
  cases s with
  | val u => exact h
  | row B e size n vs f =>
    simp only [spFree, List.all_eq_true, decide_eq_true_eq] at hf
    obtain ⟨a, c, h1, h2⟩ := h
    refine ⟨a, c, h1, h2.1, ?_⟩
    rcases h2.2 with h3 | ⟨g, c', cur, hv, hb, hgb, r⟩
    · exact .inl h3
    · refine .inr ⟨g, c', cur, hv, hb, ?_, r⟩
      have hlt : g < w.heap.size := by
        rcases Nat.lt_or_ge g w.heap.size with h' | h'
        · exact h'
        · rw [Array.getElem?_eq_none h'] at hgb; cases hgb
      rcases hg.block g hlt with h3 | ⟨_, s, hs, cs, u, h4, _⟩
      · rw [h3]; exact hgb
      · exfalso
        rw [Box, hgb] at h4
        injection h4 with h4
        injection h4 with _ h5 _
        exact hf s hs h5.symm
  | bx B T cs =>
    simp only [spFree, List.all_eq_true, decide_eq_true_eq] at hf
    obtain ⟨g, h1, h2, h3⟩ := h
    refine ⟨g, h1, h2, ?_⟩
    rcases hg.block g h3.lt with h4 | ⟨_, s, hs, cs, u, h5, _⟩
    · rw [Box, h4]; exact h3
    · exact absurd (box_type h5 h3) (hf s hs)
  | any => trivial
theorem GS.trans {B0 : Nat} {S : List BS} (hf : ∀ s ∈ S, spFree S s.src = true) {a b c : World} (h : GS B0 S a b) (k : GS B0 S b c) : GS B0 S a c := by
  refine ⟨k.os.trans h.os, k.tape.trans h.tape, k.output.trans h.output, Nat.le_trans h.size k.size, fun i hi => ?_⟩
  rcases h.block i hi with h1 | ⟨h0, s, hs, cs, u, h1, h2, h3⟩
  · rcases k.block i (Nat.lt_of_lt_of_le hi h.size) with k1 | ⟨k0, s, hs, cs, u, k1, k2, k3⟩
    · exact .inl (k1.trans h1)
    · refine .inr ⟨k0, s, hs, cs, u, ?_, k2, k3⟩
      rw [Box, ← h1]; exact k1
  · rcases k.block i (Nat.lt_of_lt_of_le hi h.size) with k1 | ⟨_, s', hs', cs', u', k1, k2, k3⟩
    · exact .inr ⟨h0, s, hs, cs, u, h1, by rw [Box, k1]; exact h2, SP.free (hf s hs) h3 k⟩
    · have e := box_type k1 h2
      exact .inr ⟨h0, s', hs', cs, u', by rw [e]; exact h1, k2, k3⟩
/-- What is said of a slot that bears a box's address. -/
def BxHas (B0 : Nat) (s : BS) (v : Value) (w : World) : Prop := ∃ g, v = .pointer (some ⟨g, 0, none⟩) ∧ B0 ≤ g ∧ (Box w g s.T s.cs0 ∨ ∃ u, Box w g s.T u.cells.toList ∧ s.src.Has u w)
def BxDone (B0 : Nat) (s : BS) (v : Value) (w : World) : Prop := ∃ g u, v = .pointer (some ⟨g, 0, none⟩) ∧ B0 ≤ g ∧ Box w g s.T u.cells.toList ∧ s.src.Has u w
theorem BxDone.stable {B0 : Nat} {S : List BS} (hf : ∀ s ∈ S, spFree S s.src = true) (hd : ∀ s ∈ S, ∀ s' ∈ S, s.T = s'.T → s = s') {s : BS} (hs : s ∈ S) {v : Value} {w w' : World} (h : BxDone B0 s v w) (hg : GS B0 S w w') : BxDone B0 s v w' := by
  obtain ⟨g, u, h1, h2, h3, h4⟩ := h
  rcases hg.block g h3.lt with k | ⟨_, s', hs', cs', u', k1, k2, k3⟩
  · exact ⟨g, u, h1, h2, by rw [Box, k]; exact h3, SP.free (hf s hs) h4 hg⟩
  · obtain rfl := hd s hs s' hs' (box_type h3 k1)
    exact ⟨g, u', h1, h2, k2, k3⟩
theorem BxHas.stable {B0 : Nat} {S : List BS} (hf : ∀ s ∈ S, spFree S s.src = true) (hd : ∀ s ∈ S, ∀ s' ∈ S, s.T = s'.T → s = s') {s : BS} (hs : s ∈ S) {v : Value} {w w' : World} (h : BxHas B0 s v w) (hg : GS B0 S w w') : BxHas B0 s v w' := by
  obtain ⟨g, h1, h2, h3 | ⟨u, h3, h4⟩⟩ := h
  · rcases hg.block g h3.lt with k | ⟨_, s', hs', cs', u', k1, k2, k3⟩
    · exact ⟨g, h1, h2, .inl (by rw [Box, k]; exact h3)⟩
    · obtain rfl := hd s hs s' hs' (box_type h3 k1)
      exact ⟨g, h1, h2, .inr ⟨u', k2, k3⟩⟩
  · obtain ⟨g', u', k1, k2, k3, k4⟩ := BxDone.stable hf hd hs (⟨g, u, h1, h2, h3, h4⟩ : BxDone B0 s v w) hg
    exact ⟨g', k1, k2, .inr ⟨u', k3, k4⟩⟩
def bsAt : List BS → Tmp → Option BS
  | [], _ => none
  | s :: r, d => if d = s.slot then some s else bsAt r d
theorem bsAt_mem : ∀ {S : List BS} {d : Tmp} {s : BS}, bsAt S d = some s → s ∈ S ∧ d = s.slot
  | [], _, _, h => by cases h
  | x :: r, d, s, h => by
    unfold bsAt at h
    split at h
    · rename_i he; injection h with h; subst h; exact ⟨by simp, he⟩
    · have := bsAt_mem h; exact ⟨by simp [this.1], this.2⟩
/-- What is said of a slot, a box's or not. -/
def SHas (B0 : Nat) (S : List BS) (tys : List (Tmp × SP)) (d : Tmp) (v : Value) (w : World) : Prop :=
  match bsAt S d with
  | some s => BxHas B0 s v w
  | none => (spAt tys d).Has v w
/-- Which box an operation stores into. -/
def stBox (S : List BS) (o : Oper) : Option BS :=
  match o.dst, o.op with
  | none, .store _ (.tmp c) _ => bsAt S c
  | _, _ => none
/-- What an operation of such a region is asked: one that yields a value. -/
def OpS (l : List Oper) (n : Nat) (a0 : Act) (w0 : World) (S : List BS) (tys : List (Tmp × SP)) (Q : Exit → Act → World → Prop) (_ : Nat) (o : Oper) : Prop :=
  ∀ a w, (∀ s, isDst l.toArray n s = false → a.tmps.getD s undef = a0.tmps.getD s undef) →
     (∀ s, (o.after.any fun e => Region.binds .any e && decide (dstOf l.toArray e.on = some s)) = true → SHas w0.heap.size S tys s (a.tmps.getD s undef) w) → Below w0.heap.size w0 w →
     match o.dst with
     | some d => Oper.wp Try.prog o a w (fun a' w' => ∃ v, a' = a.put (some d) v ∧ SHas w0.heap.size S tys d v w' ∧ Below w.heap.size w w') Q
     | none => ∃ s, stBox S o = some s ∧ s ∈ S ∧ (o.after.any fun e => Region.binds .any e && decide (dstOf l.toArray e.on = some s.slot)) = true ∧
        Oper.wp Try.prog o a w (fun a' w' => a' = a ∧ ∃ g cs u, a.tmps.getD s.slot undef = .pointer (some ⟨g, 0, none⟩) ∧ w0.heap.size ≤ g ∧ Box w g s.T cs ∧ Box w' g s.T u.cells.toList ∧ s.src.Has u w ∧ w.grownBy w' (some g) ∧ w'.heap.size = w.heap.size) Q
/-- .. and what is told behind the head: of a box's slot, that the struct lies in it. -/
def DHas (B0 : Nat) (S : List BS) (tys : List (Tmp × SP)) (d : Tmp) (v : Value) (w : World) : Prop :=
  match bsAt S d with
  | some s => BxDone B0 s v w
  | none => (spAt tys d).Has v w
theorem region_anyS {id : Nat} {a0 : Act} {w0 : World} {Q : Exit → Act → World → Prop} (l : List Oper) (n size : Nat) (ds : List Tmp) (S : List BS) (tys : List (Tmp × SP)) (hsize : a0.tmps.size = size)
    (hok : (regOkG l.toArray size n && decide (ds = (List.range n).filterMap (dstOf l.toArray))) = true)
    (hfree : ∀ s ∈ S, spFree S s.src = true) (htys : ∀ d, spFree S (spAt tys d) = true) (hdist : ∀ s ∈ S, ∀ s' ∈ S, s.T = s'.T → s = s')
    (hst : (S.all fun s => (List.range n).any fun i => match l.toArray[i]? with | some o => (match stBox S o with | some s' => decide (s'.slot = s.slot) | none => false) | none => false) = true)
    (hop : AllOps (OpS l n a0 w0 S tys Q) 0 (l.take n))
    (htail : ∀ (f : Tmp → Value) (w : World), (∀ d, d ∈ ds → DHas w0.heap.size S tys d (f d) w) → Below w0.heap.size w0 w → wpList Try.prog l.toArray Q (l.drop n) (putL ds f a0) w) :
    (Code.region id l.toArray true).wp Try.prog Q a0 w0 := by
  simp only [Bool.and_eq_true, decide_eq_true_eq] at hok
  obtain ⟨h1, hds⟩ := hok
  have hmemds : ∀ s, s ∈ ds ↔ ∃ j, j < n ∧ dstOf l.toArray j = some s := fun s => by
    rw [hds, List.mem_filterMap]
    exact ⟨fun ⟨j, hj, e⟩ => ⟨j, List.mem_range.1 hj, e⟩, fun ⟨j, hj, e⟩ => ⟨j, List.mem_range.2 hj, e⟩⟩
  have hdr : Below w0.heap.size w0 w0.drew := (Below.refl _ _).drew
  have hgb : ∀ {w : World}, GS w0.heap.size S w0.drew w → Below w0.heap.size w0 w := fun {w} h => by
    rcases h.below with h' | h'
    · exact Below.trans hdr h'
    · exact absurd h' (by show ¬ w0.heap.size < w0.heap.size; omega)
  refine region_typedS (G := GS w0.heap.size S) (T := fun d => SHas w0.heap.size S tys d)
    (F := fun i a w => match l.toArray[i]? with | some o => (match stBox S o with | some s => (s ∈ S ∧ (o.after.any fun e => Region.binds .any e && decide (dstOf l.toArray e.on = some s.slot)) = true) ∧ BxDone w0.heap.size s (a.tmps.getD s.slot undef) w | none => True) | none => True)
    (W := fun _ _ => True) (fun a => gs_of (Below.refl _ _)) (fun a b c h k => h.trans hfree k) (by kernel_rfl) l n size hsize h1
    (fun d v w w' hh hg => ?_) ?_ trivial ?_ ?_
  · unfold SHas at *
    cases hb : bsAt S d with
    | some s => rw [hb] at hh; exact BxHas.stable hfree hdist (bsAt_mem hb).1 hh hg
    | none => rw [hb] at hh; exact SP.free (htys d) hh hg
  · intro i o a a' w w' hi ho hd hF hg hs
    rw [ho] at hF ⊢
    dsimp only at hF ⊢
    cases hb : stBox S o with
    | none => trivial
    | some s =>
      rw [hb] at hF
      dsimp only at hF ⊢
      obtain ⟨⟨hs1, hs2⟩, hF⟩ := hF
      refine ⟨⟨hs1, hs2⟩, ?_⟩
      obtain ⟨e, he, hbe⟩ := Array.any_eq_true'.1 hs2
      simp only [Bool.and_eq_true, decide_eq_true_eq] at hbe
      rw [hs s.slot ⟨e, he, hbe.1, hbe.2⟩]
      exact BxDone.stable hfree hdist hs1 hF hg
  · have hall : ∀ (m : Nat) (r : List Oper), (∀ j o, r[j]? = some o → l.toArray[m + j]? = some o) → AllOps (OpS l n a0 w0 S tys Q) m r → AllOps (fun i o => ∀ k a w, k < n → a.defers = a0.defers → (∀ s, (∀ j, j < n → dstOf l.toArray j ≠ some s) → a.tmps.getD s undef = a0.tmps.getD s undef) →
      (∀ s, (∃ e ∈ o.after, Region.binds .any e = true ∧ dstOf l.toArray e.on = some s) → SHas w0.heap.size S tys s (a.tmps.getD s undef) w) → GS w0.heap.size S w0.drew w → True →
      Oper.wp Try.prog o a w (PostS (GS w0.heap.size S) (fun d => SHas w0.heap.size S tys d) (fun i a w => match l.toArray[i]? with | some o => (match stBox S o with | some s => (s ∈ S ∧ (o.after.any fun e => Region.binds .any e && decide (dstOf l.toArray e.on = some s.slot)) = true) ∧ BxDone w0.heap.size s (a.tmps.getD s.slot undef) w | none => True) | none => True) (fun _ _ => True) k i o a w) Q) m r := by
      intro m r
      induction r generalizing m with
      | nil => intro _ _; trivial
      | cons o r ih =>
        rintro hidx ⟨ho, hr⟩
        refine ⟨?_, ih _ (fun j o' hj => by have := hidx (j + 1) o' (by simpa using hj); rwa [show m + (j + 1) = m + 1 + j by omega] at this) hr⟩
        intro k a w _ _ hfrm hdep hgr _
        have hio : l.toArray[m]? = some o := by have := hidx 0 o rfl; rwa [Nat.add_zero] at this
        have h2 := ho a w (fun s hs => hfrm s fun j hj hjs => by
            have : isDst l.toArray n s = true := List.any_eq_true.2 ⟨j, List.mem_range.2 hj, by simpa using hjs⟩
            rw [this] at hs; cases hs) (fun s hs => by
            obtain ⟨e, he, hb⟩ := Array.any_eq_true'.1 hs
            simp only [Bool.and_eq_true, decide_eq_true_eq] at hb
            exact hdep s ⟨e, he, hb.1, hb.2⟩) (hgb hgr)
        cases hd : o.dst with
        | some d =>
          simp only [hd] at h2
          refine Oper.wp_mono (fun a' w' hg => ?_) h2
          obtain ⟨v, ha, hT, hgg⟩ := hg
          refine ⟨gs_of hgg, trivial, ?_⟩
          rw [hd]
          exact ⟨v, ha, hT⟩
        | none =>
          simp only [hd] at h2
          obtain ⟨s, hs1, hs2, hs3, h2⟩ := h2
          refine Oper.wp_mono (fun a' w' hg => ?_) h2
          obtain ⟨ha, g, cs, u, e1, e2, e3, e4, e5, e6, e7⟩ := hg
          have hGS : GS w0.heap.size S w w' := ⟨e6.os, e6.tape, e6.output, e6.size, fun b hb => by
            by_cases hbg : b = g
            · subst hbg
              refine .inr ⟨e2, s, hs2, cs, u, e3, e4, ?_⟩
              refine SP.free (hfree s hs2) e5 (B0 := w0.heap.size) ?_
              refine ⟨e6.os, e6.tape, e6.output, e6.size, fun b' hb' => ?_⟩
              by_cases hbb : b' = b
              · subst hbb
                exact .inr ⟨e2, s, hs2, cs, u, e3, e4, by
                  cases hsrc : s.src with
                  | val x => rw [hsrc] at e5; exact e5
                  | any => trivial
                  | row B e size n vs f =>
                    have hf := hfree s hs2
                    rw [hsrc] at e5 hf
                    simp only [spFree, List.all_eq_true, decide_eq_true_eq] at hf
                    obtain ⟨a9, c9, x1, x2⟩ := e5
                    exact ⟨a9, c9, x1, row_kept x2 e6 (fun q hq hqq => by cases hqq; exact row_ne x2 e3 (hf s hs2) hq)⟩
                  | bx B T cs' =>
                    have hf := hfree s hs2
                    rw [hsrc] at e5 hf
                    simp only [spFree, List.all_eq_true, decide_eq_true_eq] at hf
                    obtain ⟨g9, x1, x2, x3⟩ := e5
                    exact ⟨g9, x1, x2, Box.kept x3 e6 (fun hq => by cases hq; exact hf s hs2 (box_type e3 x3))⟩⟩
              · exact .inl (e6.block b' hb' (fun h => hbb (by injection h)))
            · exact .inl (e6.block b hb (fun h => hbg (by injection h)))⟩
          refine ⟨hGS, trivial, ?_⟩
          rw [hd]
          refine ⟨ha, ?_⟩
          dsimp only
          rw [hio]
          dsimp only
          rw [hs1]
          dsimp only
          refine ⟨⟨hs2, hs3⟩, g, u, e1, e2, e4, ?_⟩
          rcases hGS.block g e3.lt with k | ⟨_, s', hs', cs', u', k1, k2, k3⟩
          · exact SP.free (hfree s hs2) e5 hGS
          · exact SP.free (hfree s hs2) e5 hGS
    refine hall 0 _ (fun j o hj => ?_) hop
    rw [Nat.zero_add]
    rw [List.getElem?_take] at hj
    split at hj
    · simpa using hj
    · cases hj
  · intro a w hsz hdef hfrm htyp hF hgr _
    have hpe := putL_eq (ds := ds) (a0 := a0) (a := a) (by rw [hsz, hsize]) hdef (fun s hs => hfrm s (fun j hj hjs => hs ((hmemds s).2 ⟨j, hj, hjs⟩)))
    rw [← hpe]
    refine htail (fun d => a.tmps.getD d undef) w (fun d hd => ?_) (hgb hgr)
    obtain ⟨j, hj, hjs⟩ := (hmemds d).1 hd
    have hT := htyp j d hj hjs
    unfold SHas at hT
    unfold DHas
    cases hb : bsAt S d with
    | none => rw [hb] at hT; exact hT
    | some s =>
      dsimp only
      obtain ⟨hsm, rfl⟩ := bsAt_mem hb
      have h5 := List.all_eq_true.1 hst s hsm
      obtain ⟨i, hi, h6⟩ := List.any_eq_true.1 h5
      rw [List.mem_range] at hi
      cases ho : l.toArray[i]? with
      | none => rw [ho] at h6; cases h6
      | some o =>
        rw [ho] at h6
        dsimp only at h6
        cases hsb : stBox S o with
        | none => rw [hsb] at h6; cases h6
        | some s' =>
          rw [hsb] at h6
          simp only [decide_eq_true_eq] at h6
          have hdn : o.dst = none := by
            unfold stBox at hsb
            split at hsb
            · assumption
            · cases hsb
          have hFi := hF i o hi ho hdn
          simp only [ho, hsb] at hFi
          have hss : s' = s := by
            unfold stBox at hsb
            split at hsb
            · have e1 := (bsAt_mem hsb).2
              rw [← h6] at hb
              rw [← e1] at hb
              rw [hb] at hsb
              injection hsb with hsb
              exact hsb.symm
            · cases hsb
          subst hss
          exact hFi.2
end Go.Proofs.Ytdkdfehlmphikaa
/- Drawn regions whose operations make memory, turn a reader, and store structs into new boxes: each slot's fact stays true whatever the others do. No condition. -/
namespace Go.Proofs.Ytdkdfehlmphikaa
open Go.RowKit
/-- What is said of a slot's value. -/
abbrev VP := Value → World → Prop
/-- A box that is made and stored into inside a region: its slot, its type, what it holds when new, what is said of the value that is stored. -/
structure BR where
  slot : Tmp
  T : TypeId
  cs0 : List Value
  src : VP
/-- How the world may turn: the reader's block, and what is new of a box's type and is stored into. -/
structure GR (g B0 : Nat) (S : List BR) (w w' : World) : Prop where
  os : w'.os = w.os
  tape : w'.tape = w.tape
  output : w'.output = w.output
  size : w.heap.size ≤ w'.heap.size
  block : ∀ b, b < w.heap.size → b ≠ g → w'.heap[b]? = w.heap[b]? ∨ (B0 ≤ b ∧ ∃ s ∈ S, ∃ cs u, Box w b s.T cs ∧ Box w' b s.T u.cells.toList ∧ s.src u w')
theorem gr_of {g B0 : Nat} {S : List BR} {w w' : World} (h : w.grownBy w' (some g)) : GR g B0 S w w' := ⟨h.os, h.tape, h.output, h.size, fun b hb hg => .inl (h.block b hb (fun e => hg (by simpa using e)))⟩
theorem GR.grown {g : Nat} {S : List BR} {w w' : World} (h : GR g w.heap.size S w w') : w.grownBy w' (some g) := ⟨h.os, h.tape, h.output, h.size, fun b hb hg => by
  rcases h.block b hb (fun e => hg (by rw [e])) with h1 | ⟨h1, _⟩
  · exact h1
  · omega⟩
/-- A fact that stays true. -/
def Stb (g B0 : Nat) (S : List BR) (P : VP) : Prop := ∀ v w w', P v w → GR g B0 S w w' → P v w'
theorem stb_pure {g B0 : Nat} {S : List BR} (P : Value → Prop) : Stb g B0 S (fun v _ => P v) := fun _ _ _ h _ => h
theorem gr_row {g B0 : Nat} {S : List BR} {w w' : World} (hg : GR g B0 S w w') (hgB : g < B0) {e : TypeId} {size n : Nat} {v : Value} {vs : List Value} (hf : ∀ s ∈ S, s.T ≠ e) (h : w.ownsRow B0 e size v n vs) : w'.ownsRow B0 e size v n vs := by
  refine ⟨h.1, ?_⟩
  rcases h.2 with h3 | ⟨k, c', cur, hv, hb, hgb, r⟩
  · exact .inl h3
  · refine .inr ⟨k, c', cur, hv, hb, ?_, r⟩
    have hlt : k < w.heap.size := by
      rcases Nat.lt_or_ge k w.heap.size with h' | h'
      · exact h'
      · rw [Array.getElem?_eq_none h'] at hgb; cases hgb
    rcases hg.block k hlt (by omega) with h3 | ⟨_, s, hs, cs, u, h4, _⟩
    · rw [h3]; exact hgb
    · exfalso
      rw [Box, hgb] at h4
      injection h4 with h4
      injection h4 with _ h5 _
      exact hf s hs h5.symm
theorem gr_box {g B0 : Nat} {S : List BR} {w w' : World} (hg : GR g B0 S w w') {k T : Nat} {cs : List Value} (hk : k ≠ g) (hf : (∀ s ∈ S, s.T ≠ T) ∨ k < B0) (h : Box w k T cs) : Box w' k T cs := by
  rcases hg.block k h.lt hk with h4 | ⟨h0, s, hs, cs, u, h5, _⟩
  · rw [Box, h4]; exact h
  · rcases hf with hf | hf
    · exact absurd (box_type h5 h) (hf s hs)
    · omega
theorem GR.trans {g B0 : Nat} {S : List BR} (hf : ∀ s ∈ S, Stb g B0 S s.src) {a b c : World} (h : GR g B0 S a b) (k : GR g B0 S b c) : GR g B0 S a c := by
  refine ⟨k.os.trans h.os, k.tape.trans h.tape, k.output.trans h.output, Nat.le_trans h.size k.size, fun i hi hg => ?_⟩
  rcases h.block i hi hg with h1 | ⟨h0, s, hs, cs, u, h1, h2, h3⟩
  · rcases k.block i (Nat.lt_of_lt_of_le hi h.size) hg with k1 | ⟨k0, s, hs, cs, u, k1, k2, k3⟩
    · exact .inl (k1.trans h1)
    · refine .inr ⟨k0, s, hs, cs, u, ?_, k2, k3⟩
      rw [Box, ← h1]; exact k1
  · rcases k.block i (Nat.lt_of_lt_of_le hi h.size) hg with k1 | ⟨_, s', hs', cs', u', k1, k2, k3⟩
    · exact .inr ⟨h0, s, hs, cs, u, h1, by rw [Box, k1]; exact h2, hf s hs _ _ _ h3 k⟩
    · have e := box_type k1 h2
      exact .inr ⟨h0, s', hs', cs, u', by rw [e]; exact h1, k2, k3⟩
def BrHas (B0 : Nat) (s : BR) (v : Value) (w : World) : Prop := ∃ k, v = .pointer (some ⟨k, 0, none⟩) ∧ B0 ≤ k ∧ (Box w k s.T s.cs0 ∨ ∃ u, Box w k s.T u.cells.toList ∧ s.src u w)
def BrDone (B0 : Nat) (s : BR) (v : Value) (w : World) : Prop := ∃ k u, v = .pointer (some ⟨k, 0, none⟩) ∧ B0 ≤ k ∧ Box w k s.T u.cells.toList ∧ s.src u w
theorem BrDone.stable {g B0 : Nat} {S : List BR} (hgB : g < B0) (hf : ∀ s ∈ S, Stb g B0 S s.src) (hd : ∀ s ∈ S, ∀ s' ∈ S, s.T = s'.T → s = s') {s : BR} (hs : s ∈ S) {v : Value} {w w' : World} (h : BrDone B0 s v w) (hg : GR g B0 S w w') : BrDone B0 s v w' := by
  obtain ⟨k, u, h1, h2, h3, h4⟩ := h
  rcases hg.block k h3.lt (by omega) with q | ⟨_, s', hs', cs', u', k1, k2, k3⟩
  · exact ⟨k, u, h1, h2, by rw [Box, q]; exact h3, hf s hs _ _ _ h4 hg⟩
  · obtain rfl := hd s hs s' hs' (box_type h3 k1)
    exact ⟨k, u', h1, h2, k2, k3⟩
theorem BrHas.stable {g B0 : Nat} {S : List BR} (hgB : g < B0) (hf : ∀ s ∈ S, Stb g B0 S s.src) (hd : ∀ s ∈ S, ∀ s' ∈ S, s.T = s'.T → s = s') {s : BR} (hs : s ∈ S) {v : Value} {w w' : World} (h : BrHas B0 s v w) (hg : GR g B0 S w w') : BrHas B0 s v w' := by
  obtain ⟨k, h1, h2, h3 | ⟨u, h3, h4⟩⟩ := h
  · rcases hg.block k h3.lt (by omega) with q | ⟨_, s', hs', cs', u', k1, k2, k3⟩
    · exact ⟨k, h1, h2, .inl (by rw [Box, q]; exact h3)⟩
    · obtain rfl := hd s hs s' hs' (box_type h3 k1)
      exact ⟨k, h1, h2, .inr ⟨u', k2, k3⟩⟩
  · obtain ⟨k', u', k1, k2, k3, k4⟩ := BrDone.stable hgB hf hd hs (⟨k, u, h1, h2, h3, h4⟩ : BrDone B0 s v w) hg
    exact ⟨k', k1, k2, .inr ⟨u', k3, k4⟩⟩
def brAt : List BR → Tmp → Option BR
  | [], _ => none
  | s :: r, d => if d = s.slot then some s else brAt r d
theorem brAt_mem : ∀ {S : List BR} {d : Tmp} {s : BR}, brAt S d = some s → s ∈ S ∧ d = s.slot
  | [], _, _, h => by cases h
  | x :: r, d, s, h => by
    unfold brAt at h
    split at h
    · rename_i he; injection h with h; subst h; exact ⟨by simp, he⟩
    · have := brAt_mem h; exact ⟨by simp [this.1], this.2⟩
def vpAt : List (Tmp × VP) → Tmp → VP
  | [], _ => fun _ _ => True
  | (s, p) :: r, d => if d = s then p else vpAt r d
theorem vpAt_stb {g B0 : Nat} {S : List BR} : ∀ {X : List (Tmp × VP)}, (∀ q ∈ X, Stb g B0 S q.2) → ∀ d, Stb g B0 S (vpAt X d)
  | [], _, _ => fun _ _ _ _ _ => trivial
  | (s, p) :: r, h, d => by
    unfold vpAt
    split
    · exact h (s, p) (by simp)
    · exact vpAt_stb (fun q hq => h q (by simp [hq])) d
/-- What is said of a slot, a box's or not. -/
def RHas (B0 : Nat) (S : List BR) (X : List (Tmp × VP)) (d : Tmp) (v : Value) (w : World) : Prop :=
  match brAt S d with
  | some s => BrHas B0 s v w
  | none => vpAt X d v w
def DRHas (B0 : Nat) (S : List BR) (X : List (Tmp × VP)) (d : Tmp) (v : Value) (w : World) : Prop :=
  match brAt S d with
  | some s => BrDone B0 s v w
  | none => vpAt X d v w
def srBox (S : List BR) (o : Oper) : Option BR :=
  match o.dst, o.op with
  | none, .store _ (.tmp c) _ => brAt S c
  | _, _ => none
/-- What an operation of such a region is asked. -/
def OpR (l : List Oper) (n : Nat) (a0 : Act) (w0 : World) (D g p c : Nat) (S : List BR) (X : List (Tmp × VP)) (Q : Exit → Act → World → Prop) (_ : Nat) (o : Oper) : Prop :=
  ∀ k a w, k < n → (∀ s, isDst l.toArray n s = false → a.tmps.getD s undef = a0.tmps.getD s undef) →
     (∀ s, (o.after.any fun e => Region.binds .any e && decide (dstOf l.toArray e.on = some s)) = true → RHas w0.heap.size S X s (a.tmps.getD s undef) w) → w0.grownBy w (some g) → (∃ p', p' ≤ p + c * k ∧ Rd D w g p') →
     match o.dst with
     | some d => Oper.wp Try.prog o a w (fun a' w' => ∃ v, a' = a.put (some d) v ∧ RHas w0.heap.size S X d v w' ∧ w.grownBy w' (some g) ∧ ∃ p', p' ≤ p + c * (k + 1) ∧ Rd D w' g p') Q
     | none => ∃ s, srBox S o = some s ∧ s ∈ S ∧ (o.after.any fun e => Region.binds .any e && decide (dstOf l.toArray e.on = some s.slot)) = true ∧
        Oper.wp Try.prog o a w (fun a' w' => a' = a ∧ ∃ b cs u, a.tmps.getD s.slot undef = .pointer (some ⟨b, 0, none⟩) ∧ w0.heap.size ≤ b ∧ Box w b s.T cs ∧ Box w' b s.T u.cells.toList ∧ s.src u w ∧ s.src u w' ∧ w.grownBy w' (some b) ∧ w'.heap.size = w.heap.size) Q
theorem region_draw {id : Nat} {a0 : Act} {w0 : World} {Q : Exit → Act → World → Prop} (l : List Oper) (D g p c n size : Nat) (ds : List Tmp) (S : List BR) (X : List (Tmp × VP)) (hsize : a0.tmps.size = size)
    (hok : (regOkG l.toArray size n && decide (ds = (List.range n).filterMap (dstOf l.toArray))) = true)
    (hgw : g < w0.heap.size) (hD : D ≤ w0.heap.size) (hr : Rd D w0 g p)
    (hfree : ∀ s ∈ S, Stb g w0.heap.size S s.src) (hX : ∀ q ∈ X, Stb g w0.heap.size S q.2) (hdist : ∀ s ∈ S, ∀ s' ∈ S, s.T = s'.T → s = s')
    (hst : (S.all fun s => (List.range n).any fun i => match l.toArray[i]? with | some o => (match srBox S o with | some s' => decide (s'.slot = s.slot) | none => false) | none => false) = true)
    (hop : AllOps (OpR l n a0 w0 D g p c S X Q) 0 (l.take n))
    (htail : ∀ (f : Tmp → Value) (w : World), (∀ d, d ∈ ds → DRHas w0.heap.size S X d (f d) w) → w0.grownBy w (some g) → (∃ p', p' ≤ p + c * n ∧ Rd D w g p') → wpList Try.prog l.toArray Q (l.drop n) (putL ds f a0) w) :
    (Code.region id l.toArray true).wp Try.prog Q a0 w0 := by
  simp only [Bool.and_eq_true, decide_eq_true_eq] at hok
  obtain ⟨h1, hds⟩ := hok
  have htys := vpAt_stb (X := X) hX
  have hmemds : ∀ s, s ∈ ds ↔ ∃ j, j < n ∧ dstOf l.toArray j = some s := fun s => by
    rw [hds, List.mem_filterMap]
    exact ⟨fun ⟨j, hj, e⟩ => ⟨j, List.mem_range.1 hj, e⟩, fun ⟨j, hj, e⟩ => ⟨j, List.mem_range.2 hj, e⟩⟩
  have hgb : ∀ {w : World}, GR g w0.heap.size S w0.drew w → w0.grownBy w (some g) := fun {w} h =>
    grownBy_tr (⟨rfl, rfl, rfl, Nat.le_refl _, fun _ _ _ => rfl⟩ : w0.grownBy w0.drew (some g)) (GR.grown (w := w0.drew) h)
  refine region_typedS (G := GR g w0.heap.size S) (T := fun d => RHas w0.heap.size S X d)
    (F := fun i a w => match l.toArray[i]? with | some o => (match srBox S o with | some s => (s ∈ S ∧ (o.after.any fun e => Region.binds .any e && decide (dstOf l.toArray e.on = some s.slot)) = true) ∧ BrDone w0.heap.size s (a.tmps.getD s.slot undef) w | none => True) | none => True)
    (W := fun k w => ∃ p', p' ≤ p + c * k ∧ Rd D w g p') (fun a => gr_of (World.grownBy.refl _ _)) (fun a b c h k => h.trans hfree k) (by kernel_rfl) l n size hsize h1
    (fun d v w w' hh hg => ?_) ?_ ⟨p, by omega, hr⟩ ?_ ?_
  · unfold RHas at *
    cases hb : brAt S d with
    | some s => rw [hb] at hh; exact BrHas.stable hgw hfree hdist (brAt_mem hb).1 hh hg
    | none => rw [hb] at hh; exact htys d _ _ _ hh hg
  · intro i o a a' w w' hi ho hd hF hg hs
    rw [ho] at hF ⊢
    dsimp only at hF ⊢
    cases hb : srBox S o with
    | none => trivial
    | some s =>
      rw [hb] at hF
      dsimp only at hF ⊢
      obtain ⟨⟨hs1, hs2⟩, hF⟩ := hF
      refine ⟨⟨hs1, hs2⟩, ?_⟩
      obtain ⟨e, he, hbe⟩ := Array.any_eq_true'.1 hs2
      simp only [Bool.and_eq_true, decide_eq_true_eq] at hbe
      rw [hs s.slot ⟨e, he, hbe.1, hbe.2⟩]
      exact BrDone.stable hgw hfree hdist hs1 hF hg
  · have hall : ∀ (m : Nat) (r : List Oper), (∀ j o, r[j]? = some o → l.toArray[m + j]? = some o) → AllOps (OpR l n a0 w0 D g p c S X Q) m r → AllOps (fun i o => ∀ k a w, k < n → a.defers = a0.defers → (∀ s, (∀ j, j < n → dstOf l.toArray j ≠ some s) → a.tmps.getD s undef = a0.tmps.getD s undef) →
      (∀ s, (∃ e ∈ o.after, Region.binds .any e = true ∧ dstOf l.toArray e.on = some s) → RHas w0.heap.size S X s (a.tmps.getD s undef) w) → GR g w0.heap.size S w0.drew w → (∃ p', p' ≤ p + c * k ∧ Rd D w g p') →
      Oper.wp Try.prog o a w (PostS (GR g w0.heap.size S) (fun d => RHas w0.heap.size S X d) (fun i a w => match l.toArray[i]? with | some o => (match srBox S o with | some s => (s ∈ S ∧ (o.after.any fun e => Region.binds .any e && decide (dstOf l.toArray e.on = some s.slot)) = true) ∧ BrDone w0.heap.size s (a.tmps.getD s.slot undef) w | none => True) | none => True) (fun k w => ∃ p', p' ≤ p + c * k ∧ Rd D w g p') k i o a w) Q) m r := by
      intro m r
      induction r generalizing m with
      | nil => intro _ _; trivial
      | cons o r ih =>
        rintro hidx ⟨ho, hr'⟩
        refine ⟨?_, ih _ (fun j o' hj => by have := hidx (j + 1) o' (by simpa using hj); rwa [show m + (j + 1) = m + 1 + j by omega] at this) hr'⟩
        intro k a w hk _ hfrm hdep hgr hW
        have hio : l.toArray[m]? = some o := by have := hidx 0 o rfl; rwa [Nat.add_zero] at this
        have h2 := ho k a w hk (fun s hs => hfrm s fun j hj hjs => by
            have : isDst l.toArray n s = true := List.any_eq_true.2 ⟨j, List.mem_range.2 hj, by simpa using hjs⟩
            rw [this] at hs; cases hs) (fun s hs => by
            obtain ⟨e, he, hb⟩ := Array.any_eq_true'.1 hs
            simp only [Bool.and_eq_true, decide_eq_true_eq] at hb
            exact hdep s ⟨e, he, hb.1, hb.2⟩) (hgb hgr) hW
        cases hd : o.dst with
        | some d =>
          simp only [hd] at h2
          refine Oper.wp_mono (fun a' w' hg => ?_) h2
          obtain ⟨v, ha, hT, hgg, hW'⟩ := hg
          refine ⟨gr_of hgg, hW', ?_⟩
          rw [hd]
          exact ⟨v, ha, hT⟩
        | none =>
          simp only [hd] at h2
          obtain ⟨s, hs1, hs2, hs3, h2⟩ := h2
          refine Oper.wp_mono (fun a' w' hg => ?_) h2
          obtain ⟨ha, b, cs, u, e1, e2, e3, e4, e5, e5', e6, e7⟩ := hg
          have hGR : GR g w0.heap.size S w w' := ⟨e6.os, e6.tape, e6.output, e6.size, fun b' hb _ => by
            by_cases hbg : b' = b
            · subst hbg
              exact .inr ⟨e2, s, hs2, cs, u, e3, e4, e5'⟩
            · exact .inl (e6.block b' hb (fun h => hbg (by injection h)))⟩
          obtain ⟨p', q1, q2⟩ := hW
          refine ⟨hGR, ⟨p', Nat.le_trans q1 (by rw [Nat.mul_add]; omega), q2.far e6 (by omega) (by omega)⟩, ?_⟩
          rw [hd]
          refine ⟨ha, ?_⟩
          dsimp only
          rw [hio]
          dsimp only
          rw [hs1]
          dsimp only
          exact ⟨⟨hs2, hs3⟩, b, u, e1, e2, e4, e5'⟩
    refine hall 0 _ (fun j o hj => ?_) hop
    rw [Nat.zero_add]
    rw [List.getElem?_take] at hj
    split at hj
    · simpa using hj
    · cases hj
  · intro a w hsz hdef hfrm htyp hF hgr hW
    have hpe := putL_eq (ds := ds) (a0 := a0) (a := a) (by rw [hsz, hsize]) hdef (fun s hs => hfrm s (fun j hj hjs => hs ((hmemds s).2 ⟨j, hj, hjs⟩)))
    rw [← hpe]
    refine htail (fun d => a.tmps.getD d undef) w (fun d hd => ?_) (hgb hgr) hW
    obtain ⟨j, hj, hjs⟩ := (hmemds d).1 hd
    have hT := htyp j d hj hjs
    unfold RHas at hT
    unfold DRHas
    cases hb : brAt S d with
    | none => rw [hb] at hT; exact hT
    | some s =>
      dsimp only
      obtain ⟨hsm, rfl⟩ := brAt_mem hb
      have h5 := List.all_eq_true.1 hst s hsm
      obtain ⟨i, hi, h6⟩ := List.any_eq_true.1 h5
      rw [List.mem_range] at hi
      cases ho : l.toArray[i]? with
      | none => rw [ho] at h6; cases h6
      | some o =>
        rw [ho] at h6
        dsimp only at h6
        cases hsb : srBox S o with
        | none => rw [hsb] at h6; cases h6
        | some s' =>
          rw [hsb] at h6
          simp only [decide_eq_true_eq] at h6
          have hdn : o.dst = none := by
            unfold srBox at hsb
            split at hsb
            · assumption
            · cases hsb
          have hFi := hF i o hi ho hdn
          simp only [ho, hsb] at hFi
          have hss : s' = s := by
            unfold srBox at hsb
            split at hsb
            · have e1 := (brAt_mem hsb).2
              rw [← h6] at hb
              rw [← e1] at hb
              rw [hb] at hsb
              injection hsb with hsb
              exact hsb.symm
            · cases hsb
          subst hss
          exact hFi.2
/-- An operation that yields what is said of its slot, by hand. -/
theorem opR_of {l : List Oper} {n : Nat} {a0 : Act} {w0 : World} {D g p c : Nat} {S : List BR} {X : List (Tmp × VP)} {Q : Exit → Act → World → Prop} {o : Oper} {d : Tmp} (hd : o.dst = some d) (hb : brAt S d = none)
    (h : ∀ k a w, k < n → (∀ s, isDst l.toArray n s = false → a.tmps.getD s undef = a0.tmps.getD s undef) →
     (∀ s, (o.after.any fun e => Region.binds .any e && decide (dstOf l.toArray e.on = some s)) = true → RHas w0.heap.size S X s (a.tmps.getD s undef) w) → w0.grownBy w (some g) → (∃ p', p' ≤ p + c * k ∧ Rd D w g p') →
     Oper.wp Try.prog o a w (fun a' w' => ∃ v, a' = a.put (some d) v ∧ vpAt X d v w' ∧ w.grownBy w' (some g) ∧ ∃ p', p' ≤ p + c * (k + 1) ∧ Rd D w' g p') Q) (i : Nat) : OpR l n a0 w0 D g p c S X Q i o := by
  intro k a w hk h1 h2 h3 h4
  simp only [hd]
  refine Oper.wp_mono (fun a' w' hg => ?_) (h k a w hk h1 h2 h3 h4)
  obtain ⟨v, e1, e2, e3⟩ := hg
  refine ⟨v, e1, ?_, e3⟩
  unfold RHas
  rw [hb]
  exact e2
/-- .. one that leaves the world as it is. -/
theorem opR_val {l : List Oper} {n : Nat} {a0 : Act} {w0 : World} {D g p c : Nat} {S : List BR} {X : List (Tmp × VP)} {Q : Exit → Act → World → Prop} {o : Oper} {d : Tmp} (hd : o.dst = some d) (hb : brAt S d = none)
    (h : ∀ (a : Act) (w : World), (∀ s, isDst l.toArray n s = false → a.tmps.getD s undef = a0.tmps.getD s undef) →
     (∀ s, (o.after.any fun e => Region.binds .any e && decide (dstOf l.toArray e.on = some s)) = true → RHas w0.heap.size S X s (a.tmps.getD s undef) w) → w0.grownBy w (some g) →
     ∃ v, (execOp a.eval o).run Try.prog w = .ok (.value v) w ∧ vpAt X d v w) (i : Nat) : OpR l n a0 w0 D g p c S X Q i o :=
  opR_of hd hb (fun k a w _ h1 h2 h3 ⟨p', q1, q2⟩ => by
    obtain ⟨v, hr, hv⟩ := h a w h1 h2 h3
    exact wp_val2 hd hr ⟨v, rfl, hv, World.grownBy.refl _ _, p', Nat.le_trans q1 (by rw [Nat.mul_add]; omega), q2⟩) i
theorem opR_alloc {l : List Oper} {n : Nat} {a0 : Act} {w0 : World} {D g p c : Nat} {S : List BR} {X : List (Tmp × VP)} {Q : Exit → Act → World → Prop} {o : Oper} {d : Tmp} {s : BR} (hd : o.dst = some d) (hb : brAt S d = some s)
    (h : ∀ (ρ : Operand → Value) (w : World), (execOp ρ o).run Try.prog w = .ok (.value (.pointer (some ⟨w.heap.size, 0, none⟩))) (w.alloc (.cells s.cs0.toArray s.T))) (i : Nat) : OpR l n a0 w0 D g p c S X Q i o := by
  intro k a w hk h1 h2 h3 ⟨p', q1, q2⟩
  simp only [hd]
  refine wp_val2 hd (h a.eval w) ⟨_, rfl, ?_, grownBy_alloc _ _ _, p', Nat.le_trans q1 (by rw [Nat.mul_add]; omega), q2.keep (grownBy_alloc _ _ _)⟩
  unfold RHas
  rw [hb]
  exact ⟨w.heap.size, rfl, h3.size, .inl (Box.new _ _ _)⟩
theorem wp_skipR {Q : Exit → Act → World → Prop} {o : Oper} {a : Act} {w w1 : World} {K : Act → World → Prop} (hd : o.dst = none) (h : (execOp a.eval o).run Try.prog w = .ok .skip w1) (hK : K a w1) : Oper.wp Try.prog o a w K Q := by
  unfold Oper.wp
  rw [h]
  have : K (a.put o.dst undef) w1 := by rw [hd]; exact hK
  exact this
/-- The store of a slot's value into a box. -/
theorem opR_store {l : List Oper} {n : Nat} {a0 : Act} {w0 : World} {D g p k0 : Nat} {S : List BR} {X : List (Tmp × VP)} {Q : Exit → Act → World → Prop} {o : Oper} {s : BR} (c d : Tmp) (T : TypeId) (hd : o.dst = none) (ho : o.op = .store T (.tmp c) (.tmp d)) (hsb : brAt S c = some s) (hdb : brAt S d = none)
    (hc : (o.after.any fun e => Region.binds .any e && decide (dstOf l.toArray e.on = some c)) = true) (hc2 : (o.after.any fun e => Region.binds .any e && decide (dstOf l.toArray e.on = some d)) = true) (htd : vpAt X d = s.src)
    (hrun : ∀ (ρ : Operand → Value) (w : World) (b : Nat) (cs : List Value) (u : Value), ρ (.tmp c) = .pointer (some ⟨b, 0, none⟩) → ρ (.tmp d) = u → w0.heap.size ≤ b → Box w b s.T cs → (cs = s.cs0 ∨ ∃ u', cs = u'.cells.toList ∧ s.src u' w) → s.src u w →
      ∃ w', (execOp ρ o).run Try.prog w = .ok .skip w' ∧ Box w' b s.T u.cells.toList ∧ s.src u w' ∧ w.grownBy w' (some b) ∧ w'.heap.size = w.heap.size) (i : Nat) : OpR l n a0 w0 D g p k0 S X Q i o := by
  intro k a w hk h1 h2 h3 h6
  simp only [hd]
  obtain ⟨hs, rfl⟩ := brAt_mem hsb
  have h4 := h2 _ hc
  unfold RHas at h4
  rw [hsb] at h4
  obtain ⟨b, e1, e2, e3⟩ := h4
  have h5 := h2 _ hc2
  unfold RHas at h5
  rw [hdb] at h5
  dsimp only at h5
  rw [htd] at h5
  obtain ⟨cs, hb, hcs⟩ : ∃ cs, Box w b s.T cs ∧ (cs = s.cs0 ∨ ∃ u', cs = u'.cells.toList ∧ s.src u' w) := by
    rcases e3 with e3 | ⟨u, e3, e4⟩
    · exact ⟨_, e3, .inl rfl⟩
    · exact ⟨_, e3, .inr ⟨u, rfl, e4⟩⟩
  obtain ⟨w', hr, b1, b0, b2, b3⟩ := hrun a.eval w b cs _ e1 rfl e2 hb hcs h5
  refine ⟨s, ?_, hs, hc, wp_skipR hd hr ⟨rfl, b, cs, _, e1, e2, hb, b1, h5, b0, b2, b3⟩⟩
  unfold srBox
  simp only [hd, ho]
  exact hsb
end Go.Proofs.Ytdkdfehlmphikaa
/- As 'region_checked', and besides: a slot that is copied, step by step, from a slot of the frame holds that slot's very value. -/
namespace Go.Proofs.Ytdkdfehlmphikaa
open Go.RowKit
variable {D D0 B : Nat}
/-- Which slot of the frame a slot is a copy of. -/
def srcAt (src : List (Tmp × Tmp)) (d : Tmp) : Option Tmp := (src.find? fun p => p.1 == d).map (·.2)
def srcOk (ops : Array Oper) (n : Nat) (S : TypeId) (src : List (Tmp × Tmp)) (i : Nat) : Bool :=
  match ops[i]? with
  | some o => (match o.dst with
    | some d => (match srcAt src d with
      | none => true
      | some s => (match kindOf S o with
        | .mv (.tmp s') => (decide (s' = s) && !isDst ops n s') || (decide (srcAt src s' = some s) && o.after.any fun e => Region.binds .any e && decide (dstOf ops e.on = some s'))
        | _ => false))
    | none => false)
  | none => false
theorem mv_goes {Q : Exit → Act → World → Prop} {S : TypeId} {o : Oper} {x : Operand} {a : Act} {w : World} {K : Act → World → Prop} (h : kindOf S o = .mv x) (hK : K (a.put o.dst (a.eval x)) w) : Oper.wp Try.prog o a w K Q := by
  unfold Oper.wp
  have : (execOp a.eval o).run Try.prog w = .ok (.value (a.eval x)) w := by
    rcases kind_mv h with ho | ho <;> simp [execOp, ho, Sem.run_pure]
  rw [this]
  exact hK
theorem region_checked_id {id : Nat} {a0 : Act} {w0 : World} {Q : Exit → Act → World → Prop} (l : List Oper) (S : TypeId) (useS : Bool) (n size g p : Nat) (fr tys : List (Tmp × Ty)) (ds : List Tmp) (src : List (Tmp × Tmp)) (hsize : a0.tmps.size = size)
    (hok : checkAll l.toArray size n S useS fr tys ds = true) (hsrc : ((List.range n).all (srcOk l.toArray n S src)) = true) (hS : useS = true → SOk S) (hfr : ∀ q ∈ fr, q.2.Has D w0.heap.size g (a0.tmps.getD q.1 undef) w0) (hr : Rd D w0 g p) (hp : p + n ≤ 100000)
    (htail : ∀ (f : Tmp → Value) (w : World), (∀ d, d ∈ ds → (tyAt tys d).Has D w0.heap.size g (f d) w ∧ ∀ s, srcAt src d = some s → f d = a0.tmps.getD s undef) → w0.grownBy w (some g) → (∃ p', p' ≤ p + n ∧ Rd D w g p') → wpList Try.prog l.toArray Q (l.drop n) (putL ds f a0) w) :
    (Code.region id l.toArray true).wp Try.prog Q a0 w0 := by
  simp only [checkAll, Bool.and_eq_true, decide_eq_true_eq] at hok
  obtain ⟨⟨h1, h2⟩, hds⟩ := hok
  have hmemds : ∀ s, s ∈ ds ↔ ∃ j, j < n ∧ dstOf l.toArray j = some s := fun s => by
    rw [hds, List.mem_filterMap]
    exact ⟨fun ⟨j, hj, e⟩ => ⟨j, List.mem_range.1 hj, e⟩, fun ⟨j, hj, e⟩ => ⟨j, List.mem_range.2 hj, e⟩⟩
  refine region_typed (by kernel_rfl) l n size g hsize h1 (fun d v w => (tyAt tys d).Has D w0.heap.size g v w ∧ ∀ s, srcAt src d = some s → v = a0.tmps.getD s undef) (fun k w => ∃ p', p' ≤ p + k ∧ Rd D w g p') (fun d v w w' hh hg => ⟨Ty.stable _ v w w' hh.1 hg, hh.2⟩) ⟨p, Nat.le_refl _, hr⟩ ?_ ?_
  · have hall : ∀ (m : Nat) (r : List Oper) (i : Nat), r = (l.take n).drop i → AllOps (fun _ o => ∀ d, o.dst = some d → ∀ k a w, k < n → a.defers = a0.defers → (∀ s, (∀ j, j < n → dstOf l.toArray j ≠ some s) → a.tmps.getD s undef = a0.tmps.getD s undef) →
        (∀ s, (∃ e ∈ o.after, Region.binds .any e = true ∧ dstOf l.toArray e.on = some s) → (tyAt tys s).Has D w0.heap.size g (a.tmps.getD s undef) w ∧ ∀ t, srcAt src s = some t → a.tmps.getD s undef = a0.tmps.getD t undef) → w0.drew.grownBy w (some g) → (∃ p', p' ≤ p + k ∧ Rd D w g p') →
        Oper.wp Try.prog o a w (fun a' w' => ∃ v, a' = a.put (some d) v ∧ ((tyAt tys d).Has D w0.heap.size g v w' ∧ ∀ s, srcAt src d = some s → v = a0.tmps.getD s undef) ∧ w.grownBy w' (some g) ∧ ∃ p', p' ≤ p + (k + 1) ∧ Rd D w' g p') Q) m r := by
      intro m r
      induction r generalizing m with
      | nil => intro i _; trivial
      | cons o r ih =>
        intro i hi
        have hio : (l.take n)[i]? = some o := by
          have : ((l.take n).drop i)[0]? = some o := by rw [← hi]; rfl
          simpa using this
        have hin : i < n := by
          have := (List.getElem?_eq_some_iff.1 hio).1
          rw [List.length_take] at this; omega
        have hlo : l.toArray[i]? = some o := by rw [List.getElem?_take, if_pos hin] at hio; simpa using hio
        refine ⟨?_, ih (m + 1) (i + 1) ?_⟩
        · intro d hd k a w hk hdef hfrm hdep hgr hW
          have hc := List.all_eq_true.1 h2 i (List.mem_range.2 hin)
          unfold opOk at hc
          rw [hlo] at hc
          simp only [hd, Bool.and_eq_true, decide_eq_true_eq] at hc
          obtain ⟨⟨hty, hus⟩, hop⟩ := hc
          have hsr := List.all_eq_true.1 hsrc i (List.mem_range.2 hin)
          unfold srcOk at hsr
          rw [hlo] at hsr
          simp only [hd] at hsr
          have henv : ∀ x ∈ opndsK (kindOf S o), (opndTy tys x).Has D w0.heap.size g (a.eval x) w := fun x hx => by
            have hxo := List.all_eq_true.1 hop x hx
            cases x with
            | tmp s =>
              simp only [opndOk, Bool.or_eq_true, Bool.and_eq_true, decide_eq_true_eq] at hxo
              rcases hxo with hx1 | ⟨hx1, hx2⟩
              · obtain ⟨e, he, hb⟩ := Array.any_eq_true'.1 hx1
                simp only [Bool.and_eq_true, decide_eq_true_eq] at hb
                exact (hdep s ⟨e, he, hb.1, hb.2⟩).1
              · have hnot : ∀ j, j < n → dstOf l.toArray j ≠ some s := fun j hj hjs => by
                  have : isDst l.toArray n s = true := List.any_eq_true.2 ⟨j, List.mem_range.2 hj, by simpa using hjs⟩
                  rw [this] at hx1; cases hx1
                show (tyAt tys s).Has D w0.heap.size g (a.tmps.getD s undef) w
                rw [hx2, hfrm s hnot]
                exact Ty.stable _ _ _ _ (tyAt_frame hfr s) (grownBy_tr (⟨rfl, rfl, rfl, Nat.le_refl _, fun _ _ _ => rfl⟩ : w0.grownBy w0.drew (some g)) hgr)
            | const v =>
              cases v with
              | int kd m =>
                cases kd <;> first | exact ⟨m, rfl, Int.le_refl _, Int.le_refl _⟩ | trivial
              | _ => trivial
            | global _ => trivial
            | func _ => trivial
          cases hsd : srcAt src d with
          | none =>
            have := kd_sound (Q := Q) (S := S) (l := tys) hd hty (fun hu => hS (by rw [hu] at hus; simpa using hus)) henv hW (by omega) hgr.size hr.1
            refine Oper.wp_mono (fun a' w' ⟨v, e1, e2, e3, e4⟩ => ⟨v, e1, ⟨e2, fun s hs => by cases hs⟩, e3, e4⟩) this
          | some s =>
            rw [hsd] at hsr
            simp only at hsr
            cases hkd : kindOf S o with
            | mv x =>
              rw [hkd] at hsr hty henv
              refine mv_goes hkd ⟨a.eval x, by rw [hd], ⟨?_, fun s0 hs0 => ?_⟩, grownBy_rfl _ _, let ⟨p', q1, q2⟩ := hW; ⟨p', by omega, q2⟩⟩
              · have := henv x (by simp [opndsK])
                simp only [tyK, Option.some.injEq] at hty
                rw [← hty]; exact this
              · injection hs0 with hs0
                subst hs0
                cases x with
                | tmp s' =>
                  simp only [Bool.or_eq_true, Bool.and_eq_true, decide_eq_true_eq, Bool.not_eq_true'] at hsr
                  rcases hsr with ⟨e1, e2⟩ | ⟨e1, e2⟩
                  · subst e1
                    exact hfrm s' (fun j hj hjs => by
                      have : isDst l.toArray n s' = true := List.any_eq_true.2 ⟨j, List.mem_range.2 hj, by simpa using hjs⟩
                      rw [this] at e2; cases e2)
                  · obtain ⟨e, he, hb⟩ := Array.any_eq_true'.1 e2
                    simp only [Bool.and_eq_true, decide_eq_true_eq] at hb
                    exact (hdep s' ⟨e, he, hb.1, hb.2⟩).2 _ e1
                | const v => cases hsr
                | global _ => cases hsr
                | func _ => cases hsr
            | _ => rw [hkd] at hsr; cases hsr
        · rw [← List.tail_drop, ← hi]; rfl
    exact hall 0 (l.take n) 0 (by simp)
  · intro a w hsz hdef hfrm htyp hgr hW
    have hpe := putL_eq (ds := ds) (a0 := a0) (a := a) (by rw [hsz, hsize]) hdef (fun s hs => hfrm s (fun j hj hjs => hs ((hmemds s).2 ⟨j, hj, hjs⟩)))
    rw [← hpe]
    exact htail (fun d => a.tmps.getD d undef) w (fun d hd => by
      obtain ⟨j, hj, hjs⟩ := (hmemds d).1 hd
      exact htyp j d hj hjs) (grownBy_tr (⟨rfl, rfl, rfl, Nat.le_refl _, fun _ _ _ => rfl⟩ : w0.grownBy w0.drew (some g)) hgr) hW
end Go.Proofs.Ytdkdfehlmphikaa
/- As 'region_checked_id', and besides: some operations ('ex') that the checker does not know are shown by hand; what they leave is said by 'X', slot by slot. -/
namespace Go.Proofs.Ytdkdfehlmphikaa
open Go.RowKit
variable {D D0 B : Nat}
/-- What is said by hand of a slot. -/
def XHas (X : List (Tmp × (Value → World → Prop))) (d : Tmp) (v : Value) (w : World) : Prop := ∀ q ∈ X, q.1 = d → q.2 v w
theorem XHas.none {X : List (Tmp × (Value → World → Prop))} {xk : List Tmp} (hx : X.map (·.1) = xk) {d : Tmp} (h : xk.contains d = false) (v : Value) (w : World) : XHas X d v w := fun q hq e => by
  have : d ∈ xk := by rw [← hx, ← e]; exact List.mem_map_of_mem hq
  rw [List.contains_eq_mem, decide_eq_true this] at h; cases h
def xOk (ops : Array Oper) (n : Nat) (S : TypeId) (useS : Bool) (fr tys : List (Tmp × Ty)) (src : List (Tmp × Tmp)) (xk : List Tmp) (ex : List Nat) (i : Nat) : Bool :=
  ex.contains i || (opOk ops n S useS fr tys i && srcOk ops n S src i && (match dstOf ops i with | some d => !xk.contains d | none => false))
def checkX (ops : Array Oper) (size n : Nat) (S : TypeId) (useS : Bool) (fr tys : List (Tmp × Ty)) (ds : List Tmp) (src : List (Tmp × Tmp)) (xk : List Tmp) (ex : List Nat) : Bool :=
  regOk ops size n && (List.range n).all (xOk ops n S useS fr tys src xk ex) && decide (ds = (List.range n).filterMap (dstOf ops))
/-- What every slot holds. -/
def TX (tys : List (Tmp × Ty)) (src : List (Tmp × Tmp)) (X : List (Tmp × (Value → World → Prop))) (D B g : Nat) (a0 : Act) (d : Tmp) (v : Value) (w : World) : Prop :=
  (tyAt tys d).Has D B g v w ∧ (∀ s, srcAt src d = some s → v = a0.tmps.getD s undef) ∧ XHas X d v w
theorem region_checked_x {id : Nat} {a0 : Act} {w0 : World} {Q : Exit → Act → World → Prop} (l : List Oper) (S : TypeId) (useS : Bool) (n size g p : Nat) (fr tys : List (Tmp × Ty)) (ds : List Tmp) (src : List (Tmp × Tmp)) (X : List (Tmp × (Value → World → Prop))) (xk : List Tmp) (ex : List Nat) (hsize : a0.tmps.size = size)
    (hok : checkX l.toArray size n S useS fr tys ds src xk ex = true) (hxk : X.map (·.1) = xk) (hXs : ∀ q ∈ X, ∀ v w w', q.2 v w → w.grownBy w' (some g) → q.2 v w') (hS : useS = true → SOk S) (hfr : ∀ q ∈ fr, q.2.Has D w0.heap.size g (a0.tmps.getD q.1 undef) w0) (hr : Rd D w0 g p) (hp : p + n ≤ 100000)
    (hex : ∀ i ∈ ex, ∀ o d, i < n → l[i]? = some o → o.dst = some d → ∀ k a w, k < n → a.defers = a0.defers → (∀ s, isDst l.toArray n s = false → a.tmps.getD s undef = a0.tmps.getD s undef) →
      (∀ s, (o.after.any fun e => Region.binds .any e && decide (dstOf l.toArray e.on = some s)) = true → TX tys src X D w0.heap.size g a0 s (a.tmps.getD s undef) w) → w0.grownBy w (some g) → (∃ p', p' ≤ p + k ∧ Rd D w g p') →
      Oper.wp Try.prog o a w (fun a' w' => ∃ v, a' = a.put (some d) v ∧ TX tys src X D w0.heap.size g a0 d v w' ∧ w.grownBy w' (some g) ∧ ∃ p', p' ≤ p + (k + 1) ∧ Rd D w' g p') Q)
    (htail : ∀ (f : Tmp → Value) (w : World), (∀ d, d ∈ ds → TX tys src X D w0.heap.size g a0 d (f d) w) → w0.grownBy w (some g) → (∃ p', p' ≤ p + n ∧ Rd D w g p') → wpList Try.prog l.toArray Q (l.drop n) (putL ds f a0) w) :
    (Code.region id l.toArray true).wp Try.prog Q a0 w0 := by
  simp only [checkX, Bool.and_eq_true, decide_eq_true_eq] at hok
  obtain ⟨⟨h1, h2⟩, hds⟩ := hok
  have hmemds : ∀ s, s ∈ ds ↔ ∃ j, j < n ∧ dstOf l.toArray j = some s := fun s => by
    rw [hds, List.mem_filterMap]
    exact ⟨fun ⟨j, hj, e⟩ => ⟨j, List.mem_range.1 hj, e⟩, fun ⟨j, hj, e⟩ => ⟨j, List.mem_range.2 hj, e⟩⟩
  refine region_typed (by kernel_rfl) l n size g hsize h1 (fun d v w => TX tys src X D w0.heap.size g a0 d v w) (fun k w => ∃ p', p' ≤ p + k ∧ Rd D w g p') (fun d v w w' hh hg => ⟨Ty.stable _ v w w' hh.1 hg, hh.2.1, fun q hq e => hXs q hq v w w' (hh.2.2 q hq e) hg⟩) ⟨p, Nat.le_refl _, hr⟩ ?_ ?_
  · have hall : ∀ (m : Nat) (r : List Oper) (i : Nat), r = (l.take n).drop i → AllOps (fun _ o => ∀ d, o.dst = some d → ∀ k a w, k < n → a.defers = a0.defers → (∀ s, (∀ j, j < n → dstOf l.toArray j ≠ some s) → a.tmps.getD s undef = a0.tmps.getD s undef) →
        (∀ s, (∃ e ∈ o.after, Region.binds .any e = true ∧ dstOf l.toArray e.on = some s) → TX tys src X D w0.heap.size g a0 s (a.tmps.getD s undef) w) → w0.drew.grownBy w (some g) → (∃ p', p' ≤ p + k ∧ Rd D w g p') →
        Oper.wp Try.prog o a w (fun a' w' => ∃ v, a' = a.put (some d) v ∧ TX tys src X D w0.heap.size g a0 d v w' ∧ w.grownBy w' (some g) ∧ ∃ p', p' ≤ p + (k + 1) ∧ Rd D w' g p') Q) m r := by
      intro m r
      induction r generalizing m with
      | nil => intro i _; trivial
      | cons o r ih =>
        intro i hi
        have hio : (l.take n)[i]? = some o := by
          have : ((l.take n).drop i)[0]? = some o := by rw [← hi]; rfl
          simpa using this
        have hin : i < n := by
          have := (List.getElem?_eq_some_iff.1 hio).1
          rw [List.length_take] at this; omega
        have hlo : l.toArray[i]? = some o := by rw [List.getElem?_take, if_pos hin] at hio; simpa using hio
        refine ⟨?_, ih (m + 1) (i + 1) ?_⟩
        · intro d hd k a w hk hdef hfrm hdep hgr hW
          have hx := List.all_eq_true.1 h2 i (List.mem_range.2 hin)
          simp only [xOk, Bool.or_eq_true, Bool.and_eq_true] at hx
          rcases hx with hx | ⟨⟨hc, hsr⟩, hxd⟩
          · have hmem : i ∈ ex := by rw [List.contains_eq_mem] at hx; exact of_decide_eq_true hx
            refine hex i hmem o d hin (by simpa using hlo) hd k a w hk hdef (fun s hs => hfrm s fun j hj hjs => ?_) (fun s hs => ?_) (grownBy_tr (⟨rfl, rfl, rfl, Nat.le_refl _, fun _ _ _ => rfl⟩ : w0.grownBy w0.drew (some g)) hgr) hW
            · have : isDst l.toArray n s = true := List.any_eq_true.2 ⟨j, List.mem_range.2 hj, by simpa using hjs⟩
              rw [this] at hs; cases hs
            · obtain ⟨e, he, hb⟩ := Array.any_eq_true'.1 hs
              simp only [Bool.and_eq_true, decide_eq_true_eq] at hb
              exact hdep s ⟨e, he, hb.1, hb.2⟩
          have hdi : dstOf l.toArray i = some d := by simp only [dstOf, hlo]; exact hd
          rw [hdi] at hxd
          simp only [Bool.not_eq_true'] at hxd
          have hXn : ∀ v w, XHas X d v w := XHas.none hxk hxd
          unfold opOk at hc
          rw [hlo] at hc
          simp only [hd, Bool.and_eq_true, decide_eq_true_eq] at hc
          obtain ⟨⟨hty, hus⟩, hop⟩ := hc
          unfold srcOk at hsr
          rw [hlo] at hsr
          simp only [hd] at hsr
          have henv : ∀ x ∈ opndsK (kindOf S o), (opndTy tys x).Has D w0.heap.size g (a.eval x) w := fun x hx => by
            have hxo := List.all_eq_true.1 hop x hx
            cases x with
            | tmp s =>
              simp only [opndOk, Bool.or_eq_true, Bool.and_eq_true, decide_eq_true_eq] at hxo
              rcases hxo with hx1 | ⟨hx1, hx2⟩
              · obtain ⟨e, he, hb⟩ := Array.any_eq_true'.1 hx1
                simp only [Bool.and_eq_true, decide_eq_true_eq] at hb
                exact (hdep s ⟨e, he, hb.1, hb.2⟩).1
              · have hnot : ∀ j, j < n → dstOf l.toArray j ≠ some s := fun j hj hjs => by
                  have : isDst l.toArray n s = true := List.any_eq_true.2 ⟨j, List.mem_range.2 hj, by simpa using hjs⟩
                  rw [this] at hx1; cases hx1
                show (tyAt tys s).Has D w0.heap.size g (a.tmps.getD s undef) w
                rw [hx2, hfrm s hnot]
                exact Ty.stable _ _ _ _ (tyAt_frame hfr s) (grownBy_tr (⟨rfl, rfl, rfl, Nat.le_refl _, fun _ _ _ => rfl⟩ : w0.grownBy w0.drew (some g)) hgr)
            | const v =>
              cases v with
              | int kd m =>
                cases kd <;> first | exact ⟨m, rfl, Int.le_refl _, Int.le_refl _⟩ | trivial
              | _ => trivial
            | global _ => trivial
            | func _ => trivial
          cases hsd : srcAt src d with
          | none =>
            have := kd_sound (Q := Q) (S := S) (l := tys) hd hty (fun hu => hS (by rw [hu] at hus; simpa using hus)) henv hW (by omega) hgr.size hr.1
            refine Oper.wp_mono (fun a' w' ⟨v, e1, e2, e3, e4⟩ => ⟨v, e1, ⟨e2, (fun s hs => by rw [hsd] at hs; cases hs), hXn _ _⟩, e3, e4⟩) this
          | some s =>
            rw [hsd] at hsr
            simp only at hsr
            cases hkd : kindOf S o with
            | mv x =>
              rw [hkd] at hsr hty henv
              refine mv_goes hkd ⟨a.eval x, by rw [hd], ⟨?_, fun s0 hs0 => ?_, hXn _ _⟩, grownBy_rfl _ _, let ⟨p', q1, q2⟩ := hW; ⟨p', by omega, q2⟩⟩
              · have := henv x (by simp [opndsK])
                simp only [tyK, Option.some.injEq] at hty
                rw [← hty]; exact this
              · rw [hsd] at hs0
                injection hs0 with hs0
                subst hs0
                cases x with
                | tmp s' =>
                  simp only [Bool.or_eq_true, Bool.and_eq_true, decide_eq_true_eq, Bool.not_eq_true'] at hsr
                  rcases hsr with ⟨e1, e2⟩ | ⟨e1, e2⟩
                  · subst e1
                    exact hfrm s' (fun j hj hjs => by
                      have : isDst l.toArray n s' = true := List.any_eq_true.2 ⟨j, List.mem_range.2 hj, by simpa using hjs⟩
                      rw [this] at e2; cases e2)
                  · obtain ⟨e, he, hb⟩ := Array.any_eq_true'.1 e2
                    simp only [Bool.and_eq_true, decide_eq_true_eq] at hb
                    exact (hdep s' ⟨e, he, hb.1, hb.2⟩).2.1 _ e1
                | const v => cases hsr
                | global _ => cases hsr
                | func _ => cases hsr
            | _ => rw [hkd] at hsr; cases hsr
        · rw [← List.tail_drop, ← hi]; rfl
    exact hall 0 (l.take n) 0 (by simp)
  · intro a w hsz hdef hfrm htyp hgr hW
    have hpe := putL_eq (ds := ds) (a0 := a0) (a := a) (by rw [hsz, hsize]) hdef (fun s hs => hfrm s (fun j hj hjs => hs ((hmemds s).2 ⟨j, hj, hjs⟩)))
    rw [← hpe]
    exact htail (fun d => a.tmps.getD d undef) w (fun d hd => by
      obtain ⟨j, hj, hjs⟩ := (hmemds d).1 hd
      exact htyp j d hj hjs) (grownBy_tr (⟨rfl, rfl, rfl, Nat.le_refl _, fun _ _ _ => rfl⟩ : w0.grownBy w0.drew (some g)) hgr) hW
end Go.Proofs.Ytdkdfehlmphikaa
/- A drawn region that stores a struct of two numbers into a cell of its own besides: each slot holds a value of its type, and the cell holds the struct. -/
namespace Go.Proofs.Ytdkdfehlmphikaa
open Go.RowKit
variable {D D0 B : Nat}
/-- The world turns only at the reader and at the cell, and there a struct of small numbers is laid. -/
structure GrC (g c : Nat) (S : TypeId) (ps : List (Int × Int)) (w w' : World) : Prop where
  os : w'.os = w.os
  tape : w'.tape = w.tape
  output : w'.output = w.output
  size : w.heap.size ≤ w'.heap.size
  block : ∀ k, k < w.heap.size → k ≠ g → k ≠ c → w'.heap[k]? = w.heap[k]?
  cell : w'.heap[c]? = w.heap[c]? ∨ ∃ xs, Bds ps xs ∧ w'.heap[c]? = some (.cells (ints xs) S (0, 0))
theorem GrC.rfl' {g c : Nat} {S : TypeId} {ps : List (Int × Int)} (w : World) : GrC g c S ps w w := ⟨rfl, rfl, rfl, Nat.le_refl _, fun _ _ _ _ => rfl, .inl rfl⟩
theorem GrC.tr {g c : Nat} {S : TypeId} {ps : List (Int × Int)} (x y z : World) (h : GrC g c S ps x y) (k : GrC g c S ps y z) : GrC g c S ps x z :=
  ⟨k.os.trans h.os, k.tape.trans h.tape, k.output.trans h.output, Nat.le_trans h.size k.size, fun i hi h1 h2 => (k.block i (Nat.lt_of_lt_of_le hi h.size) h1 h2).trans (h.block i hi h1 h2), by
    rcases k.cell with e | e
    · rcases h.cell with e' | ⟨xs, h1, h2⟩
      · exact .inl (e.trans e')
      · exact .inr ⟨xs, h1, e.trans h2⟩
    · exact .inr e⟩
theorem GrC.of {g c : Nat} {S : TypeId} {ps : List (Int × Int)} {w w' : World} (h : w.grownBy w' (some g)) (hc : c < w.heap.size) (hcg : c ≠ g) : GrC g c S ps w w' :=
  ⟨h.os, h.tape, h.output, h.size, fun k hk h1 _ => h.block k hk (fun e => h1 (by simpa using e)), .inl (h.block c hc (fun e => hcg (by simpa using e)))⟩
theorem Ty.stableC {g c : Nat} {S : TypeId} {ps : List (Int × Int)} (hcD : c < D) (t : Ty) (v : Value) (w w' : World) (h : t.Has D B g v w) (hg : GrC g c S ps w w') : t.Has D B g v w' := by
  cases t with
  | int lo hi => exact h
  | bool => exact h
  | agg ps => exact h
  | rd => exact h
  | any => trivial
  | sl ps =>
    obtain ⟨b, xs, h1, h0, h2, h3, h4⟩ := h
    exact ⟨b, xs, h1, h0, h2, (hg.block b (lt_of_heap h3) h2 (by omega)).trans h3, h4⟩
  | pt lo hi =>
    obtain ⟨b, j, x, h1, h0, h2, h3, h4, h5⟩ := h
    exact ⟨b, j, x, h1, h0, h2, Nat.lt_of_lt_of_le h3 hg.size, (World.cell?_of_block (hg.block b h3 h2 (by omega))).trans h4, h5⟩
  | sb e ps =>
    obtain ⟨b, cs, h1, h0, h2, h3, h4⟩ := h
    exact ⟨b, cs, h1, h0, h2, (hg.block b (lt_of_heap h3) h2 (by omega)).trans h3, h4⟩
  | nb e ps =>
    obtain ⟨b, cs, h1, hB, h0, h2, h3, h4⟩ := h
    exact ⟨b, cs, h1, hB, h0, h2, (hg.block b (lt_of_heap h3) h2 (by omega)).trans h3, h4⟩
theorem GrC.below {g c L : Nat} {S : TypeId} {ps : List (Int × Int)} {w w' : World} (h : GrC g c S ps w w') (hL : L ≤ w.heap.size) (hg : L ≤ g) (hc : L ≤ c) : Below L w w' :=
  ⟨h.os, h.tape, h.output, h.size, fun k hk => h.block k (by omega) (by omega) (by omega)⟩
/-- A struct of two numbers is stored. -/
def SStore (S : TypeId) : Prop :=
  ∀ (o : Oper) (ρ : Operand → Value) (w : World) (x y : Operand) (b : Nat) (m n u v : Int), o.op = .store S x y → ρ x = .pointer (some ⟨b, 0, none⟩) → ρ y = .agg (ints [m, n]) → Box w b S [.int .i64 u, .int .i64 v] →
    (execOp ρ o).run Try.prog w = .ok .skip ((w.setCell ⟨b, 0, none⟩ (.int .i64 m)).setCell ⟨b, 1, none⟩ (.int .i64 n))
def stOk (ops : Array Oper) (n : Nat) (S : TypeId) (fr tys : List (Tmp × Ty)) (i : Nat) (cs : Tmp) (q : List (Int × Int)) : Bool :=
  match ops[i]? with
  | some o => o.dst.isNone && (match o.op with | .store t (.tmp x) y => decide (t = S) && decide (x = cs) && decide (opndTy tys y = .agg q) && opndOk ops n fr tys o y | _ => false)
  | none => false
def checkSt (ops : Array Oper) (size n : Nat) (S : TypeId) (fr tys : List (Tmp × Ty)) (ds : List Tmp) (i : Nat) (cs : Tmp) (q : List (Int × Int)) : Bool :=
  regOkG ops size n && decide (i < n) && !isDst ops n cs && (List.range n).all (fun j => if j = i then stOk ops n S fr tys i cs q else opOk ops n S true fr tys j) && decide (ds = (List.range n).filterMap (dstOf ops))
theorem Bds.two' {q : List (Int × Int)} (hq : q.length = 2) {xs : List Int} (h : Bds q xs) : ∃ m n, xs = [m, n] := by
  have hl := h.len
  rw [hq] at hl
  match xs, hl with
  | [m, n], _ => exact ⟨m, n, rfl⟩
theorem region_stored {id : Nat} {a0 : Act} {w0 : World} {Q : Exit → Act → World → Prop} (l : List Oper) (S : TypeId) (n size g p c : Nat) (fr tys : List (Tmp × Ty)) (ds : List Tmp) (i : Nat) (cs : Tmp) (q : List (Int × Int)) (hsize : a0.tmps.size = size)
    (hok : checkSt l.toArray size n S fr tys ds i cs q = true) (hq : q.length = 2) (hS : SOk S) (hSt : SStore S) (hfr : ∀ q ∈ fr, q.2.Has D w0.heap.size g (a0.tmps.getD q.1 undef) w0) (hr : Rd D0 w0 g p) (hp : p + n ≤ 100000)
    (hcs : a0.tmps.getD cs undef = .pointer (some ⟨c, 0, none⟩)) (u v : Int) (hc : Box w0 c S [.int .i64 u, .int .i64 v]) (hD0 : D0 ≤ c) (hcD : c < D) (hDg : D ≤ g)
    (htail : ∀ (f : Tmp → Value) (w : World), (∀ d, d ∈ ds → (tyAt tys d).Has D w0.heap.size g (f d) w) → GrC g c S q w0 w → (∃ xs, Bds q xs ∧ Box w c S (xs.map (Value.int .i64))) → (∃ p', p' ≤ p + n ∧ Rd D0 w g p') → wpList Try.prog l.toArray Q (l.drop n) (putL ds f a0) w) :
    (Code.region id l.toArray true).wp Try.prog Q a0 w0 := by
  simp only [checkSt, Bool.and_eq_true, decide_eq_true_eq] at hok
  obtain ⟨⟨⟨⟨h1, hin0⟩, hcsd⟩, h2⟩, hds⟩ := hok
  have hcs0 : ∀ j, j < n → dstOf l.toArray j ≠ some cs := fun j hj hjs => by
    have : isDst l.toArray n cs = true := List.any_eq_true.2 ⟨j, List.mem_range.2 hj, by simpa using hjs⟩
    rw [this] at hcsd; cases hcsd
  have hmemds : ∀ s, s ∈ ds ↔ ∃ j, j < n ∧ dstOf l.toArray j = some s := fun s => by
    rw [hds, List.mem_filterMap]
    exact ⟨fun ⟨j, hj, e⟩ => ⟨j, List.mem_range.1 hj, e⟩, fun ⟨j, hj, e⟩ => ⟨j, List.mem_range.2 hj, e⟩⟩
  have hcg : c ≠ g := by omega
  refine region_typedG (G := GrC g c S q) (T := fun d => (tyAt tys d).Has D w0.heap.size g) (F := fun j w => j = i → ∃ xs, Bds q xs ∧ Box w c S (xs.map (Value.int .i64)))
    (W := fun k w => (∃ p', p' ≤ p + k ∧ Rd D0 w g p') ∧ ∃ u v : Int, Box w c S [.int .i64 u, .int .i64 v]) GrC.rfl' GrC.tr (by kernel_rfl) l n size hsize h1 (fun d v w w' hh hg => Ty.stableC hcD _ v w w' hh hg) (fun j w w' hF hg hj => ?_) ⟨⟨p, Nat.le_refl _, hr⟩, u, v, hc⟩ ?_ ?_
  · obtain ⟨xs, h1, h2⟩ := hF hj
    rcases hg.cell with e | ⟨ys, e1, e2⟩
    · exact ⟨xs, h1, e.trans h2⟩
    · exact ⟨ys, e1, e2⟩
  · have hall : ∀ (m : Nat) (r : List Oper), r = (l.take n).drop m → AllOps (fun j o => ∀ k a w, k < n → a.defers = a0.defers → (∀ s, (∀ j, j < n → dstOf l.toArray j ≠ some s) → a.tmps.getD s undef = a0.tmps.getD s undef) →
        (∀ s, (∃ e ∈ o.after, Region.binds .any e = true ∧ dstOf l.toArray e.on = some s) → (tyAt tys s).Has D w0.heap.size g (a.tmps.getD s undef) w) → GrC g c S q w0.drew w → ((∃ p', p' ≤ p + k ∧ Rd D0 w g p') ∧ ∃ u v : Int, Box w c S [.int .i64 u, .int .i64 v]) →
        Oper.wp Try.prog o a w (PostG (GrC g c S q) (fun d => (tyAt tys d).Has D w0.heap.size g) (fun j w => j = i → ∃ xs, Bds q xs ∧ Box w c S (xs.map (Value.int .i64))) (fun k w => (∃ p', p' ≤ p + k ∧ Rd D0 w g p') ∧ ∃ u v : Int, Box w c S [.int .i64 u, .int .i64 v]) k j o a w) Q) m r := by
      intro m r
      induction r generalizing m with
      | nil => intro _; trivial
      | cons o r ih =>
        intro hi
        have hio : (l.take n)[m]? = some o := by
          have : ((l.take n).drop m)[0]? = some o := by rw [← hi]; rfl
          simpa using this
        have hin : m < n := by
          have := (List.getElem?_eq_some_iff.1 hio).1
          rw [List.length_take] at this; omega
        have hlo : l.toArray[m]? = some o := by rw [List.getElem?_take, if_pos hin] at hio; simpa using hio
        refine ⟨?_, ih (m + 1) ?_⟩
        · intro k a w hk hdef hfrm hdep hgr hW
          obtain ⟨hWr, hWc⟩ := hW
          have hchk := List.all_eq_true.1 h2 m (List.mem_range.2 hin)
          have hopnd : ∀ x, opndOk l.toArray n fr tys o x = true → (opndTy tys x).Has D w0.heap.size g (a.eval x) w := by
            intro x hxo
            cases x with
            | tmp s =>
              simp only [opndOk, Bool.or_eq_true, Bool.and_eq_true, decide_eq_true_eq] at hxo
              rcases hxo with hx1 | ⟨hx1, hx2⟩
              · obtain ⟨e, he, hb⟩ := Array.any_eq_true'.1 hx1
                simp only [Bool.and_eq_true, decide_eq_true_eq] at hb
                exact hdep s ⟨e, he, hb.1, hb.2⟩
              · have hnot : ∀ j, j < n → dstOf l.toArray j ≠ some s := fun j hj hjs => by
                  have : isDst l.toArray n s = true := List.any_eq_true.2 ⟨j, List.mem_range.2 hj, by simpa using hjs⟩
                  rw [this] at hx1; cases hx1
                show (tyAt tys s).Has D w0.heap.size g (a.tmps.getD s undef) w
                rw [hx2, hfrm s hnot]
                exact Ty.stableC hcD _ _ _ _ (tyAt_frame hfr s) (GrC.tr _ _ _ (GrC.of (⟨rfl, rfl, rfl, Nat.le_refl _, fun _ _ _ => rfl⟩ : w0.grownBy w0.drew (some g)) hc.lt hcg) hgr)
            | const v =>
              cases v with
              | int kd m =>
                cases kd <;> first | exact ⟨m, rfl, Int.le_refl _, Int.le_refl _⟩ | trivial
              | _ => trivial
            | global _ => trivial
            | func _ => trivial
          by_cases hmi : m = i
          · rw [if_pos hmi] at hchk
            rw [hmi] at hlo
            unfold stOk at hchk
            rw [hlo] at hchk
            simp only [Bool.and_eq_true] at hchk
            obtain ⟨hdn, hchk⟩ := hchk
            have hdn : o.dst = none := by simpa using hdn
            split at hchk
            · rename_i t x y ho
              simp only [Bool.and_eq_true, decide_eq_true_eq] at hchk
              obtain ⟨⟨⟨ht, hx⟩, hy⟩, hyo⟩ := hchk
              subst ht hx
              have hyv := hopnd y hyo
              rw [hy] at hyv
              obtain ⟨xs, hyv, hbd⟩ := hyv
              obtain ⟨m1, m2, rfl⟩ := hbd.two' hq
              obtain ⟨u1, v1, hcw⟩ := hWc
              have hrun := hSt o a.eval w (.tmp x) y c m1 m2 u1 v1 ho (by show a.tmps.getD x undef = _; rw [hfrm x hcs0, hcs]) hyv hcw
              have hbox : Box ((w.setCell ⟨c, 0, none⟩ (.int .i64 m1)).setCell ⟨c, 1, none⟩ (.int .i64 m2)) c t ([m1, m2].map (Value.int .i64)) := (hcw.set 0 (.int .i64 m1)).set 1 (.int .i64 m2)
              unfold Oper.wp
              rw [hrun]
              obtain ⟨p', hp', hr'⟩ := hWr
              refine ⟨⟨rfl, rfl, rfl, by simp, fun j hj h1 h2 => ?_, .inr ⟨[m1, m2], hbd, hbox⟩⟩, ⟨⟨p', by omega, (hr'.other hD0 hcg _ _).other hD0 hcg _ _⟩, m1, m2, hbox⟩, ?_⟩
              · exact (heap_setCell_other _ ⟨c, 1, none⟩ j _ h2).trans (heap_setCell_other _ ⟨c, 0, none⟩ j _ h2)
              · rw [hdn]
                exact ⟨rfl, fun _ => ⟨[m1, m2], hbd, hbox⟩⟩
            · cases hchk
          · rw [if_neg hmi] at hchk
            unfold opOk at hchk
            rw [hlo] at hchk
            cases hd : o.dst with
            | none => simp [hd] at hchk
            | some d =>
              simp only [hd, Bool.and_eq_true, decide_eq_true_eq] at hchk
              obtain ⟨⟨hty, _⟩, hop⟩ := hchk
              have hsd := kd_sound (D := D) (D0 := D0) (B := w0.heap.size) (Q := Q) (S := S) (l := tys) hd hty (fun _ => hS) (fun x hx => hopnd x (List.all_eq_true.1 hop x hx)) hWr (by omega) hgr.size hDg
              refine Oper.wp_mono (fun a' w' hg => ?_) hsd
              obtain ⟨v, ha, hT, hgg, hr'⟩ := hg
              obtain ⟨u1, v1, hcw⟩ := hWc
              refine ⟨GrC.of hgg hcw.lt hcg, ⟨hr', u1, v1, hcw.by hgg hcg⟩, ?_⟩
              rw [hd]
              exact ⟨v, ha, hT⟩
        · rw [← List.tail_drop, ← hi]; rfl
    exact hall 0 (l.take n) (by simp)
  · intro a w hsz hdef hfrm htyp hst hgr hW
    have hpe := putL_eq (ds := ds) (a0 := a0) (a := a) (by rw [hsz, hsize]) hdef (fun s hs => hfrm s (fun j hj hjs => hs ((hmemds s).2 ⟨j, hj, hjs⟩)))
    rw [← hpe]
    have hchk := List.all_eq_true.1 h2 i (List.mem_range.2 hin0)
    rw [if_pos rfl] at hchk
    unfold stOk at hchk
    cases ho : l.toArray[i]? with
    | none => rw [ho] at hchk; cases hchk
    | some o =>
      rw [ho] at hchk
      simp only [Bool.and_eq_true] at hchk
      exact htail (fun d => a.tmps.getD d undef) w (fun d hd => by
        obtain ⟨j, hj, hjs⟩ := (hmemds d).1 hd
        exact htyp j d hj hjs) (GrC.tr _ _ _ (GrC.of (⟨rfl, rfl, rfl, Nat.le_refl _, fun _ _ _ => rfl⟩ : w0.grownBy w0.drew (some g)) hc.lt hcg) hgr) (hst i o hin0 ho (by simpa using hchk.1) rfl) hW.1
end Go.Proofs.Ytdkdfehlmphikaa
/- As 'region_checked_x', and besides: a value is stored into a cell of its own ('c'), in whatever order: some operations are shown by hand, the store among them. -/
namespace Go.Proofs.Ytdkdfehlmphikaa
open Go.RowKit
variable {D D0 B : Nat}
/-- The world turns only at the reader and at the cell, and there V is laid. -/
structure GrV (g c : Nat) (S : TypeId) (V : Array Value) (w w' : World) : Prop where
  os : w'.os = w.os
  tape : w'.tape = w.tape
  output : w'.output = w.output
  size : w.heap.size ≤ w'.heap.size
  block : ∀ k, k < w.heap.size → k ≠ g → k ≠ c → w'.heap[k]? = w.heap[k]?
  cell : w'.heap[c]? = w.heap[c]? ∨ w'.heap[c]? = some (.cells V S (0, 0))
theorem GrV.rfl' {g c : Nat} {S : TypeId} {V : Array Value} (w : World) : GrV g c S V w w := ⟨rfl, rfl, rfl, Nat.le_refl _, fun _ _ _ _ => rfl, .inl rfl⟩
theorem GrV.tr {g c : Nat} {S : TypeId} {V : Array Value} (x y z : World) (h : GrV g c S V x y) (k : GrV g c S V y z) : GrV g c S V x z :=
  ⟨k.os.trans h.os, k.tape.trans h.tape, k.output.trans h.output, Nat.le_trans h.size k.size, fun i hi h1 h2 => (k.block i (Nat.lt_of_lt_of_le hi h.size) h1 h2).trans (h.block i hi h1 h2), by
    rcases k.cell with e | e
    · rcases h.cell with e' | e'
      · exact .inl (e.trans e')
      · exact .inr (e.trans e')
    · exact .inr e⟩
theorem GrV.of {g c : Nat} {S : TypeId} {V : Array Value} {w w' : World} (h : w.grownBy w' (some g)) (hc : c < w.heap.size) (hcg : c ≠ g) : GrV g c S V w w' :=
  ⟨h.os, h.tape, h.output, h.size, fun k hk h1 _ => h.block k hk (fun e => h1 (by simpa using e)), .inl (h.block c hc (fun e => hcg (by simpa using e)))⟩
theorem GrV.drew {g c : Nat} {S : TypeId} {V : Array Value} (w : World) : GrV g c S V w w.drew := ⟨rfl, rfl, rfl, Nat.le_refl _, fun _ _ _ _ => rfl, .inl rfl⟩
theorem GrV.keeps {g c : Nat} {S : TypeId} {V : Array Value} {w w' : World} (h : GrV g c S V w w') {k : Nat} {o : Obj} (hk : w.heap[k]? = some o) (h1 : k ≠ g) (h2 : k ≠ c) : w'.heap[k]? = some o := (h.block k (lt_of_heap hk) h1 h2).trans hk
theorem Ty.stableV {g c : Nat} {S : TypeId} {V : Array Value} (hcD : c < D) (t : Ty) (v : Value) (w w' : World) (h : t.Has D B g v w) (hg : GrV g c S V w w') : t.Has D B g v w' := by
  cases t with
  | int lo hi => exact h
  | bool => exact h
  | agg ps => exact h
  | rd => exact h
  | any => trivial
  | sl ps =>
    obtain ⟨b, xs, h1, h0, h2, h3, h4⟩ := h
    exact ⟨b, xs, h1, h0, h2, (hg.block b (lt_of_heap h3) h2 (by omega)).trans h3, h4⟩
  | pt lo hi =>
    obtain ⟨b, j, x, h1, h0, h2, h3, h4, h5⟩ := h
    exact ⟨b, j, x, h1, h0, h2, Nat.lt_of_lt_of_le h3 hg.size, (World.cell?_of_block (hg.block b h3 h2 (by omega))).trans h4, h5⟩
  | sb e ps =>
    obtain ⟨b, cs, h1, h0, h2, h3, h4⟩ := h
    exact ⟨b, cs, h1, h0, h2, (hg.block b (lt_of_heap h3) h2 (by omega)).trans h3, h4⟩
  | nb e ps =>
    obtain ⟨b, cs, h1, hB, h0, h2, h3, h4⟩ := h
    exact ⟨b, cs, h1, hB, h0, h2, (hg.block b (lt_of_heap h3) h2 (by omega)).trans h3, h4⟩
theorem GrV.below {g c L : Nat} {S : TypeId} {V : Array Value} {w w' : World} (h : GrV g c S V w w') (hL : L ≤ w.heap.size) (hg : L ≤ g) (hc : L ≤ c) : Below L w w' :=
  ⟨h.os, h.tape, h.output, h.size, fun k hk => h.block k (by omega) (by omega) (by omega)⟩
def checkXG (ops : Array Oper) (size n : Nat) (S : TypeId) (useS : Bool) (fr tys : List (Tmp × Ty)) (ds : List Tmp) (src : List (Tmp × Tmp)) (xk : List Tmp) (ex : List Nat) : Bool :=
  regOkG ops size n && (List.range n).all (xOk ops n S useS fr tys src xk ex) && decide (ds = (List.range n).filterMap (dstOf ops))
/-- What an operation that is shown by hand leaves. -/
def PostV (tys : List (Tmp × Ty)) (src : List (Tmp × Tmp)) (X : List (Tmp × (Value → World → Prop))) (D D0 B g c p k : Nat) (S' : TypeId) (V : Array Value) (a0 : Act) (o : Oper) (a : Act) (w : World) (a' : Act) (w' : World) : Prop :=
  GrV g c S' V w w' ∧ (∃ p', p' ≤ p + (k + 1) ∧ Rd D0 w' g p') ∧ match o.dst with | some d => ∃ v, a' = a.put (some d) v ∧ TX tys src X D B g a0 d v w' | none => a' = a ∧ w'.heap[c]? = some (.cells V S' (0, 0))
theorem region_checked_xc {id : Nat} {a0 : Act} {w0 : World} {Q : Exit → Act → World → Prop} (l : List Oper) (S : TypeId) (useS : Bool) (n size g p c : Nat) (S' : TypeId) (V : Array Value) (fr tys : List (Tmp × Ty)) (ds : List Tmp) (src : List (Tmp × Tmp)) (X : List (Tmp × (Value → World → Prop))) (xk : List Tmp) (ex : List Nat) (hsize : a0.tmps.size = size)
    (hok : checkXG l.toArray size n S useS fr tys ds src xk ex = true) (hxk : X.map (·.1) = xk) (hXs : ∀ q ∈ X, ∀ v w w', q.2 v w → GrV g c S' V w w' → q.2 v w') (hS : useS = true → SOk S) (hfr : ∀ q ∈ fr, q.2.Has D w0.heap.size g (a0.tmps.getD q.1 undef) w0) (hr : Rd D0 w0 g p) (hp : p + n ≤ 100000)
    (hc0 : c < w0.heap.size) (hcD : c < D) (hDg : D ≤ g)
    (hex : ∀ i ∈ ex, ∀ o, i < n → l[i]? = some o → ∀ k a w, k < n → a.defers = a0.defers → (∀ s, isDst l.toArray n s = false → a.tmps.getD s undef = a0.tmps.getD s undef) →
      (∀ s, (o.after.any fun e => Region.binds .any e && decide (dstOf l.toArray e.on = some s)) = true → TX tys src X D w0.heap.size g a0 s (a.tmps.getD s undef) w) → GrV g c S' V w0 w → (∃ p', p' ≤ p + k ∧ Rd D0 w g p') →
      Oper.wp Try.prog o a w (PostV tys src X D D0 w0.heap.size g c p k S' V a0 o a w) Q)
    (htail : ∀ (f : Tmp → Value) (w : World), (∀ d, d ∈ ds → TX tys src X D w0.heap.size g a0 d (f d) w) → GrV g c S' V w0 w → (∀ i o, i < n → l.toArray[i]? = some o → o.dst = none → w.heap[c]? = some (.cells V S' (0, 0))) → (∃ p', p' ≤ p + n ∧ Rd D0 w g p') → wpList Try.prog l.toArray Q (l.drop n) (putL ds f a0) w) :
    (Code.region id l.toArray true).wp Try.prog Q a0 w0 := by
  simp only [checkXG, Bool.and_eq_true, decide_eq_true_eq] at hok
  obtain ⟨⟨h1, h2⟩, hds⟩ := hok
  have hcg : c ≠ g := by omega
  have hmemds : ∀ s, s ∈ ds ↔ ∃ j, j < n ∧ dstOf l.toArray j = some s := fun s => by
    rw [hds, List.mem_filterMap]
    exact ⟨fun ⟨j, hj, e⟩ => ⟨j, List.mem_range.1 hj, e⟩, fun ⟨j, hj, e⟩ => ⟨j, List.mem_range.2 hj, e⟩⟩
  refine region_typedG (G := GrV g c S' V) (T := fun d v w => TX tys src X D w0.heap.size g a0 d v w) (F := fun _ w => w.heap[c]? = some (.cells V S' (0, 0))) (W := fun k w => ∃ p', p' ≤ p + k ∧ Rd D0 w g p') GrV.rfl' GrV.tr (by kernel_rfl) l n size hsize h1
    (fun d v w w' hh hg => ⟨Ty.stableV hcD _ v w w' hh.1 hg, hh.2.1, fun q hq e => hXs q hq v w w' (hh.2.2 q hq e) hg⟩) (fun j w w' hF hg => hg.cell.elim (fun e => e.trans hF) (fun e => e)) ⟨p, Nat.le_refl _, hr⟩ ?_ ?_
  · have hall : ∀ (m : Nat) (r : List Oper), r = (l.take n).drop m → AllOps (fun i o => ∀ k a w, k < n → a.defers = a0.defers → (∀ s, (∀ j, j < n → dstOf l.toArray j ≠ some s) → a.tmps.getD s undef = a0.tmps.getD s undef) →
        (∀ s, (∃ e ∈ o.after, Region.binds .any e = true ∧ dstOf l.toArray e.on = some s) → TX tys src X D w0.heap.size g a0 s (a.tmps.getD s undef) w) → GrV g c S' V w0.drew w → (∃ p', p' ≤ p + k ∧ Rd D0 w g p') →
        Oper.wp Try.prog o a w (PostG (GrV g c S' V) (fun d v w => TX tys src X D w0.heap.size g a0 d v w) (fun _ w => w.heap[c]? = some (.cells V S' (0, 0))) (fun k w => ∃ p', p' ≤ p + k ∧ Rd D0 w g p') k i o a w) Q) m r := by
      intro m r
      induction r generalizing m with
      | nil => intro _; trivial
      | cons o r ih =>
        intro hi
        have hio : (l.take n)[m]? = some o := by
          have : ((l.take n).drop m)[0]? = some o := by rw [← hi]; rfl
          simpa using this
        have hin : m < n := by
          have := (List.getElem?_eq_some_iff.1 hio).1
          rw [List.length_take] at this; omega
        have hlo : l.toArray[m]? = some o := by rw [List.getElem?_take, if_pos hin] at hio; simpa using hio
        refine ⟨?_, ih (m + 1) ?_⟩
        · intro k a w hk hdef hfrm hdep hgr hW
          have hgr0 : GrV g c S' V w0 w := GrV.tr _ _ _ (GrV.drew w0) hgr
          have hx := List.all_eq_true.1 h2 m (List.mem_range.2 hin)
          simp only [xOk, Bool.or_eq_true, Bool.and_eq_true] at hx
          rcases hx with hx | ⟨⟨hc, hsr⟩, hxd⟩
          · have hmem : m ∈ ex := by rw [List.contains_eq_mem] at hx; exact of_decide_eq_true hx
            refine Oper.wp_mono ?_ (hex m hmem o hin (by simpa using hlo) k a w hk hdef (fun s hs => hfrm s fun j hj hjs => ?_) (fun s hs => ?_) hgr0 hW)
            · rintro a' w' ⟨q1, q2, q3⟩
              exact ⟨q1, q2, q3⟩
            · have : isDst l.toArray n s = true := List.any_eq_true.2 ⟨j, List.mem_range.2 hj, by simpa using hjs⟩
              rw [this] at hs; cases hs
            · obtain ⟨e, he, hb⟩ := Array.any_eq_true'.1 hs
              simp only [Bool.and_eq_true, decide_eq_true_eq] at hb
              exact hdep s ⟨e, he, hb.1, hb.2⟩
          cases hdo : o.dst with
          | none =>
            unfold opOk at hc
            rw [hlo] at hc
            simp [hdo] at hc
          | some d =>
          have hd : o.dst = some d := hdo
          have hdi : dstOf l.toArray m = some d := by simp only [dstOf, hlo]; exact hd
          rw [hdi] at hxd
          simp only [Bool.not_eq_true'] at hxd
          have hXn : ∀ v w, XHas X d v w := XHas.none hxk hxd
          unfold opOk at hc
          rw [hlo] at hc
          simp only [hd, Bool.and_eq_true, decide_eq_true_eq] at hc
          obtain ⟨⟨hty, hus⟩, hop⟩ := hc
          unfold srcOk at hsr
          rw [hlo] at hsr
          simp only [hd] at hsr
          have hcw : c < w.heap.size := Nat.lt_of_lt_of_le hc0 hgr0.size
          have henv : ∀ x ∈ opndsK (kindOf S o), (opndTy tys x).Has D w0.heap.size g (a.eval x) w := fun x hx => by
            have hxo := List.all_eq_true.1 hop x hx
            cases x with
            | tmp s =>
              simp only [opndOk, Bool.or_eq_true, Bool.and_eq_true, decide_eq_true_eq] at hxo
              rcases hxo with hx1 | ⟨hx1, hx2⟩
              · obtain ⟨e, he, hb⟩ := Array.any_eq_true'.1 hx1
                simp only [Bool.and_eq_true, decide_eq_true_eq] at hb
                exact (hdep s ⟨e, he, hb.1, hb.2⟩).1
              · have hnot : ∀ j, j < n → dstOf l.toArray j ≠ some s := fun j hj hjs => by
                  have : isDst l.toArray n s = true := List.any_eq_true.2 ⟨j, List.mem_range.2 hj, by simpa using hjs⟩
                  rw [this] at hx1; cases hx1
                show (tyAt tys s).Has D w0.heap.size g (a.tmps.getD s undef) w
                rw [hx2, hfrm s hnot]
                exact Ty.stableV hcD _ _ _ _ (tyAt_frame hfr s) hgr0
            | const v =>
              cases v with
              | int kd m =>
                cases kd <;> first | exact ⟨m, rfl, Int.le_refl _, Int.le_refl _⟩ | trivial
              | _ => trivial
            | global _ => trivial
            | func _ => trivial
          have hpost : ∀ a' w', (∃ v, a' = a.put (some d) v ∧ TX tys src X D w0.heap.size g a0 d v w' ∧ w.grownBy w' (some g) ∧ ∃ p', p' ≤ p + (k + 1) ∧ Rd D0 w' g p') →
              PostG (GrV g c S' V) (fun d v w => TX tys src X D w0.heap.size g a0 d v w) (fun _ w => w.heap[c]? = some (.cells V S' (0, 0))) (fun k w => ∃ p', p' ≤ p + k ∧ Rd D0 w g p') k m o a w a' w' := by
            rintro a' w' ⟨v, e1, e2, e3, e4⟩
            refine ⟨GrV.of e3 hcw hcg, e4, ?_⟩
            rw [hd]
            exact ⟨v, e1, e2⟩
          cases hsd : srcAt src d with
          | none =>
            have := kd_sound (D := D) (D0 := D0) (B := w0.heap.size) (Q := Q) (S := S) (l := tys) hd hty (fun hu => hS (by rw [hu] at hus; simpa using hus)) henv hW (by omega) hgr0.size hDg
            exact Oper.wp_mono (fun a' w' ⟨v, e1, e2, e3, e4⟩ => hpost a' w' ⟨v, e1, ⟨e2, (fun s hs => by rw [hsd] at hs; cases hs), hXn _ _⟩, e3, e4⟩) this
          | some s =>
            rw [hsd] at hsr
            simp only at hsr
            cases hkd : kindOf S o with
            | mv x =>
              rw [hkd] at hsr hty henv
              refine Oper.wp_mono hpost (mv_goes hkd ⟨a.eval x, by rw [hd], ⟨?_, fun s0 hs0 => ?_, hXn _ _⟩, grownBy_rfl _ _, let ⟨p', q1, q2⟩ := hW; ⟨p', by omega, q2⟩⟩)
              · have := henv x (by simp [opndsK])
                simp only [tyK, Option.some.injEq] at hty
                rw [← hty]; exact this
              · rw [hsd] at hs0
                injection hs0 with hs0
                subst hs0
                cases x with
                | tmp s' =>
                  simp only [Bool.or_eq_true, Bool.and_eq_true, decide_eq_true_eq, Bool.not_eq_true'] at hsr
                  rcases hsr with ⟨e1, e2⟩ | ⟨e1, e2⟩
                  · subst e1
                    exact hfrm s' (fun j hj hjs => by
                      have : isDst l.toArray n s' = true := List.any_eq_true.2 ⟨j, List.mem_range.2 hj, by simpa using hjs⟩
                      rw [this] at e2; cases e2)
                  · obtain ⟨e, he, hb⟩ := Array.any_eq_true'.1 e2
                    simp only [Bool.and_eq_true, decide_eq_true_eq] at hb
                    exact (hdep s' ⟨e, he, hb.1, hb.2⟩).2.1 _ e1
                | const v => cases hsr
                | global _ => cases hsr
                | func _ => cases hsr
            | _ => rw [hkd] at hsr; cases hsr
        · rw [← List.tail_drop, ← hi]; rfl
    exact hall 0 (l.take n) (by simp)
  · intro a w hsz hdef hfrm htyp hst hgr hW
    have hpe := putL_eq (ds := ds) (a0 := a0) (a := a) (by rw [hsz, hsize]) hdef (fun s hs => hfrm s (fun j hj hjs => hs ((hmemds s).2 ⟨j, hj, hjs⟩)))
    rw [← hpe]
    exact htail (fun d => a.tmps.getD d undef) w (fun d hd => by
      obtain ⟨j, hj, hjs⟩ := (hmemds d).1 hd
      exact htyp j d hj hjs) (GrV.tr _ _ _ (GrV.drew w0) hgr) (fun i o hi ho hd => hst i o hi ho hd) hW
end Go.Proofs.Ytdkdfehlmphikaa
/- As 'region_checked_xc', over whatever relation of worlds (several cells of one's own may be stored into, in whatever order). No condition. -/
namespace Go.Proofs.Ytdkdfehlmphikaa
open Go.RowKit
variable {D D0 B : Nat}
/-- A relation of worlds that is fit for a drawn region. -/
structure RelOk (D g : Nat) (w0 : World) (G : World → World → Prop) : Prop where
  rfl' : ∀ w, G w w
  tr : ∀ x y z, G x y → G y z → G x z
  size : ∀ w w', G w w' → w.heap.size ≤ w'.heap.size
  block : ∀ w w', G w w' → ∀ k, k < w.heap.size → k ≠ g → D ≤ k → w'.heap[k]? = w.heap[k]?
  of : ∀ w w', G w0 w → w.grownBy w' (some g) → G w w'
theorem Ty.stableM {g : Nat} {w0 : World} {G : World → World → Prop} (hG : RelOk D g w0 G) (t : Ty) (v : Value) (w w' : World) (h : t.Has D B g v w) (hg : G w w') : t.Has D B g v w' := by
  cases t with
  | int lo hi => exact h
  | bool => exact h
  | agg ps => exact h
  | rd => exact h
  | any => trivial
  | sl ps =>
    obtain ⟨b, xs, h1, h0, h2, h3, h4⟩ := h
    exact ⟨b, xs, h1, h0, h2, (hG.block _ _ hg b (lt_of_heap h3) h2 (by omega)).trans h3, h4⟩
  | pt lo hi =>
    obtain ⟨b, j, x, h1, h0, h2, h3, h4, h5⟩ := h
    exact ⟨b, j, x, h1, h0, h2, Nat.lt_of_lt_of_le h3 (hG.size _ _ hg), (World.cell?_of_block (hG.block _ _ hg b h3 h2 (by omega))).trans h4, h5⟩
  | sb e ps =>
    obtain ⟨b, cs, h1, h0, h2, h3, h4⟩ := h
    exact ⟨b, cs, h1, h0, h2, (hG.block _ _ hg b (lt_of_heap h3) h2 (by omega)).trans h3, h4⟩
  | nb e ps =>
    obtain ⟨b, cs, h1, hB, h0, h2, h3, h4⟩ := h
    exact ⟨b, cs, h1, hB, h0, h2, (hG.block _ _ hg b (lt_of_heap h3) h2 (by omega)).trans h3, h4⟩
/-- What an operation that is shown by hand leaves. -/
def PostM (G : World → World → Prop) (F : Nat → World → Prop) (tys : List (Tmp × Ty)) (src : List (Tmp × Tmp)) (X : List (Tmp × (Value → World → Prop))) (D D0 B g p c k i : Nat) (a0 : Act) (o : Oper) (a : Act) (w : World) (a' : Act) (w' : World) : Prop :=
  G w w' ∧ (∃ p', p' ≤ p + c * (k + 1) ∧ Rd D0 w' g p') ∧ match o.dst with | some d => ∃ v, a' = a.put (some d) v ∧ TX tys src X D B g a0 d v w' | none => a' = a ∧ F i w'
theorem region_checked_G {id : Nat} {a0 : Act} {w0 : World} {Q : Exit → Act → World → Prop} (l : List Oper) (S : TypeId) (useS : Bool) (n size g p c : Nat) (G : World → World → Prop) (F : Nat → World → Prop) (fr tys : List (Tmp × Ty)) (ds : List Tmp) (src : List (Tmp × Tmp)) (X : List (Tmp × (Value → World → Prop))) (xk : List Tmp) (ex : List Nat) (hsize : a0.tmps.size = size)
    (hok : checkXG l.toArray size n S useS fr tys ds src xk ex = true) (hxk : X.map (·.1) = xk) (hXs : ∀ q ∈ X, ∀ v w w', q.2 v w → G w w' → q.2 v w') (hS : useS = true → SOk S) (hfr : ∀ q ∈ fr, q.2.Has D w0.heap.size g (a0.tmps.getD q.1 undef) w0) (hr : Rd D0 w0 g p) (hp : p + c * n ≤ 100000) (hc1 : 1 ≤ c)
    (hG : RelOk D g w0 G) (hFs : ∀ i w w', F i w → G w w' → F i w') (hDg : D ≤ g)
    (hex : ∀ i ∈ ex, ∀ o, i < n → l[i]? = some o → ∀ k a w, k < n → a.defers = a0.defers → (∀ s, isDst l.toArray n s = false → a.tmps.getD s undef = a0.tmps.getD s undef) →
      (∀ s, (o.after.any fun e => Region.binds .any e && decide (dstOf l.toArray e.on = some s)) = true → TX tys src X D w0.heap.size g a0 s (a.tmps.getD s undef) w) → G w0 w → (∃ p', p' ≤ p + c * k ∧ Rd D0 w g p') →
      Oper.wp Try.prog o a w (PostM G F tys src X D D0 w0.heap.size g p c k i a0 o a w) Q)
    (htail : ∀ (f : Tmp → Value) (w : World), (∀ d, d ∈ ds → TX tys src X D w0.heap.size g a0 d (f d) w) → G w0 w → (∀ i o, i < n → l.toArray[i]? = some o → o.dst = none → F i w) → (∃ p', p' ≤ p + c * n ∧ Rd D0 w g p') → wpList Try.prog l.toArray Q (l.drop n) (putL ds f a0) w) :
    (Code.region id l.toArray true).wp Try.prog Q a0 w0 := by
  simp only [checkXG, Bool.and_eq_true, decide_eq_true_eq] at hok
  obtain ⟨⟨h1, h2⟩, hds⟩ := hok
  have hdr : G w0 w0.drew := hG.of _ _ (hG.rfl' _) ⟨rfl, rfl, rfl, Nat.le_refl _, fun _ _ _ => rfl⟩
  have hmemds : ∀ s, s ∈ ds ↔ ∃ j, j < n ∧ dstOf l.toArray j = some s := fun s => by
    rw [hds, List.mem_filterMap]
    exact ⟨fun ⟨j, hj, e⟩ => ⟨j, List.mem_range.1 hj, e⟩, fun ⟨j, hj, e⟩ => ⟨j, List.mem_range.2 hj, e⟩⟩
  refine region_typedG (G := G) (T := fun d v w => TX tys src X D w0.heap.size g a0 d v w) (F := F) (W := fun k w => ∃ p', p' ≤ p + c * k ∧ Rd D0 w g p') hG.rfl' hG.tr (by kernel_rfl) l n size hsize h1
    (fun d v w w' hh hg => ⟨Ty.stableM hG _ v w w' hh.1 hg, hh.2.1, fun q hq e => hXs q hq v w w' (hh.2.2 q hq e) hg⟩) hFs ⟨p, Nat.le_refl _, hr⟩ ?_ ?_
  · have hall : ∀ (m : Nat) (r : List Oper), r = (l.take n).drop m → AllOps (fun i o => ∀ k a w, k < n → a.defers = a0.defers → (∀ s, (∀ j, j < n → dstOf l.toArray j ≠ some s) → a.tmps.getD s undef = a0.tmps.getD s undef) →
        (∀ s, (∃ e ∈ o.after, Region.binds .any e = true ∧ dstOf l.toArray e.on = some s) → TX tys src X D w0.heap.size g a0 s (a.tmps.getD s undef) w) → G w0.drew w → (∃ p', p' ≤ p + c * k ∧ Rd D0 w g p') →
        Oper.wp Try.prog o a w (PostG (G) (fun d v w => TX tys src X D w0.heap.size g a0 d v w) (F) (fun k w => ∃ p', p' ≤ p + c * k ∧ Rd D0 w g p') k i o a w) Q) m r := by
      intro m r
      induction r generalizing m with
      | nil => intro _; trivial
      | cons o r ih =>
        intro hi
        have hio : (l.take n)[m]? = some o := by
          have : ((l.take n).drop m)[0]? = some o := by rw [← hi]; rfl
          simpa using this
        have hin : m < n := by
          have := (List.getElem?_eq_some_iff.1 hio).1
          rw [List.length_take] at this; omega
        have hlo : l.toArray[m]? = some o := by rw [List.getElem?_take, if_pos hin] at hio; simpa using hio
        refine ⟨?_, ih (m + 1) ?_⟩
        · intro k a w hk hdef hfrm hdep hgr hW
          have hgr0 : G w0 w := hG.tr _ _ _ hdr hgr
          have hx := List.all_eq_true.1 h2 m (List.mem_range.2 hin)
          simp only [xOk, Bool.or_eq_true, Bool.and_eq_true] at hx
          rcases hx with hx | ⟨⟨hc, hsr⟩, hxd⟩
          · have hmem : m ∈ ex := by rw [List.contains_eq_mem] at hx; exact of_decide_eq_true hx
            refine Oper.wp_mono ?_ (hex m hmem o hin (by simpa using hlo) k a w hk hdef (fun s hs => hfrm s fun j hj hjs => ?_) (fun s hs => ?_) hgr0 hW)
            · rintro a' w' ⟨q1, q2, q3⟩
              exact ⟨q1, q2, q3⟩
            · have : isDst l.toArray n s = true := List.any_eq_true.2 ⟨j, List.mem_range.2 hj, by simpa using hjs⟩
              rw [this] at hs; cases hs
            · obtain ⟨e, he, hb⟩ := Array.any_eq_true'.1 hs
              simp only [Bool.and_eq_true, decide_eq_true_eq] at hb
              exact hdep s ⟨e, he, hb.1, hb.2⟩
          cases hdo : o.dst with
          | none =>
            unfold opOk at hc
            rw [hlo] at hc
            simp [hdo] at hc
          | some d =>
          have hd : o.dst = some d := hdo
          have hdi : dstOf l.toArray m = some d := by simp only [dstOf, hlo]; exact hd
          rw [hdi] at hxd
          simp only [Bool.not_eq_true'] at hxd
          have hXn : ∀ v w, XHas X d v w := XHas.none hxk hxd
          unfold opOk at hc
          rw [hlo] at hc
          simp only [hd, Bool.and_eq_true, decide_eq_true_eq] at hc
          obtain ⟨⟨hty, hus⟩, hop⟩ := hc
          unfold srcOk at hsr
          rw [hlo] at hsr
          simp only [hd] at hsr
          have henv : ∀ x ∈ opndsK (kindOf S o), (opndTy tys x).Has D w0.heap.size g (a.eval x) w := fun x hx => by
            have hxo := List.all_eq_true.1 hop x hx
            cases x with
            | tmp s =>
              simp only [opndOk, Bool.or_eq_true, Bool.and_eq_true, decide_eq_true_eq] at hxo
              rcases hxo with hx1 | ⟨hx1, hx2⟩
              · obtain ⟨e, he, hb⟩ := Array.any_eq_true'.1 hx1
                simp only [Bool.and_eq_true, decide_eq_true_eq] at hb
                exact (hdep s ⟨e, he, hb.1, hb.2⟩).1
              · have hnot : ∀ j, j < n → dstOf l.toArray j ≠ some s := fun j hj hjs => by
                  have : isDst l.toArray n s = true := List.any_eq_true.2 ⟨j, List.mem_range.2 hj, by simpa using hjs⟩
                  rw [this] at hx1; cases hx1
                show (tyAt tys s).Has D w0.heap.size g (a.tmps.getD s undef) w
                rw [hx2, hfrm s hnot]
                exact Ty.stableM hG _ _ _ _ (tyAt_frame hfr s) hgr0
            | const v =>
              cases v with
              | int kd m =>
                cases kd <;> first | exact ⟨m, rfl, Int.le_refl _, Int.le_refl _⟩ | trivial
              | _ => trivial
            | global _ => trivial
            | func _ => trivial
          have hcs : c * (k + 1) = c * k + c := Nat.mul_succ c k
          have hck : c * k ≤ c * n := Nat.mul_le_mul_left _ (Nat.le_of_lt hk)
          have hpost : ∀ a' w', (∃ v, a' = a.put (some d) v ∧ TX tys src X D w0.heap.size g a0 d v w' ∧ w.grownBy w' (some g) ∧ ∃ p', p' ≤ p + c * (k + 1) ∧ Rd D0 w' g p') →
              PostG (G) (fun d v w => TX tys src X D w0.heap.size g a0 d v w) (F) (fun k w => ∃ p', p' ≤ p + c * k ∧ Rd D0 w g p') k m o a w a' w' := by
            rintro a' w' ⟨v, e1, e2, e3, e4⟩
            refine ⟨hG.of _ _ hgr0 e3, e4, ?_⟩
            rw [hd]
            exact ⟨v, e1, e2⟩
          cases hsd : srcAt src d with
          | none =>
            have := kd_sound (D := D) (D0 := D0) (B := w0.heap.size) (Q := Q) (S := S) (l := tys) hd hty (fun hu => hS (by rw [hu] at hus; simpa using hus)) henv (p := p + c * k) (k := 0) hW (by omega) (hG.size _ _ hgr0) hDg
            exact Oper.wp_mono (fun a' w' ⟨v, e1, e2, e3, p4, e4, e5⟩ => hpost a' w' ⟨v, e1, ⟨e2, (fun s hs => by rw [hsd] at hs; cases hs), hXn _ _⟩, e3, p4, by omega, e5⟩) this
          | some s =>
            rw [hsd] at hsr
            simp only at hsr
            cases hkd : kindOf S o with
            | mv x =>
              rw [hkd] at hsr hty henv
              refine Oper.wp_mono hpost (mv_goes hkd ⟨a.eval x, by rw [hd], ⟨?_, fun s0 hs0 => ?_, hXn _ _⟩, grownBy_rfl _ _, let ⟨p', q1, q2⟩ := hW; ⟨p', by omega, q2⟩⟩)
              · have := henv x (by simp [opndsK])
                simp only [tyK, Option.some.injEq] at hty
                rw [← hty]; exact this
              · rw [hsd] at hs0
                injection hs0 with hs0
                subst hs0
                cases x with
                | tmp s' =>
                  simp only [Bool.or_eq_true, Bool.and_eq_true, decide_eq_true_eq, Bool.not_eq_true'] at hsr
                  rcases hsr with ⟨e1, e2⟩ | ⟨e1, e2⟩
                  · subst e1
                    exact hfrm s' (fun j hj hjs => by
                      have : isDst l.toArray n s' = true := List.any_eq_true.2 ⟨j, List.mem_range.2 hj, by simpa using hjs⟩
                      rw [this] at e2; cases e2)
                  · obtain ⟨e, he, hb⟩ := Array.any_eq_true'.1 e2
                    simp only [Bool.and_eq_true, decide_eq_true_eq] at hb
                    exact (hdep s' ⟨e, he, hb.1, hb.2⟩).2.1 _ e1
                | const v => cases hsr
                | global _ => cases hsr
                | func _ => cases hsr
            | _ => rw [hkd] at hsr; cases hsr
        · rw [← List.tail_drop, ← hi]; rfl
    exact hall 0 (l.take n) (by simp)
  · intro a w hsz hdef hfrm htyp hst hgr hW
    have hpe := putL_eq (ds := ds) (a0 := a0) (a := a) (by rw [hsz, hsize]) hdef (fun s hs => hfrm s (fun j hj hjs => hs ((hmemds s).2 ⟨j, hj, hjs⟩)))
    rw [← hpe]
    exact htail (fun d => a.tmps.getD d undef) w (fun d hd => by
      obtain ⟨j, hj, hjs⟩ := (hmemds d).1 hd
      exact htyp j d hj hjs) (hG.tr _ _ _ hdr hgr) (fun i o hi ho hd => hst i o hi ho hd) hW
end Go.Proofs.Ytdkdfehlmphikaa
/- Drawn regions in which several known boxes are stored into, in whatever order; what is shown by hand of single operations. No condition. -/
namespace Go.Proofs.Ytdkdfehlmphikaa
open Go.RowKit
variable {D D0 B : Nat}
/-- A box of one's own, its type, what is stored there. -/
abbrev MB := Nat × TypeId × List Value
/-- The world turns only at the reader and at the boxes, and there what is said is laid. -/
structure GrM (g : Nat) (cs : List MB) (w w' : World) : Prop where
  os : w'.os = w.os
  tape : w'.tape = w.tape
  output : w'.output = w.output
  size : w.heap.size ≤ w'.heap.size
  block : ∀ k, k < w.heap.size → k ≠ g → (∀ q ∈ cs, k ≠ q.1) → w'.heap[k]? = w.heap[k]?
  cell : ∀ q ∈ cs, w'.heap[q.1]? = w.heap[q.1]? ∨ Box w' q.1 q.2.1 q.2.2
theorem GrM.rfl' {g : Nat} {cs : List MB} (w : World) : GrM g cs w w := ⟨rfl, rfl, rfl, Nat.le_refl _, fun _ _ _ _ => rfl, fun _ _ => .inl rfl⟩
theorem GrM.tr {g : Nat} {cs : List MB} (x y z : World) (h : GrM g cs x y) (k : GrM g cs y z) : GrM g cs x z :=
  ⟨k.os.trans h.os, k.tape.trans h.tape, k.output.trans h.output, Nat.le_trans h.size k.size, fun i hi h1 h2 => (k.block i (Nat.lt_of_lt_of_le hi h.size) h1 h2).trans (h.block i hi h1 h2), fun q hq => by
    rcases k.cell q hq with e | e
    · rcases h.cell q hq with e' | e'
      · exact .inl (e.trans e')
      · exact .inr (by rw [Box, e]; exact e')
    · exact .inr e⟩
theorem GrM.ok {g : Nat} {cs : List MB} {w0 : World} (hc : ∀ q ∈ cs, q.1 < D ∧ q.1 < w0.heap.size) (hDg : D ≤ g) : RelOk D g w0 (GrM g cs) where
  rfl' := GrM.rfl'
  tr := GrM.tr
  size := fun _ _ h => h.size
  block := fun _ _ h k hk h1 h2 => h.block k hk h1 (fun q hq e => by have := (hc q hq).1; omega)
  of := fun w w' h k => ⟨k.os, k.tape, k.output, k.size, fun i hi h1 _ => k.block i hi (fun e => h1 (by simpa using e)), fun q hq => .inl (k.block q.1 (Nat.lt_of_lt_of_le (hc q hq).2 h.size) (fun e => by
    have := (hc q hq).1
    have e' : q.1 = g := by simpa using e
    omega))⟩
theorem GrM.below {g L : Nat} {cs : List MB} {w w' : World} (h : GrM g cs w w') (hL : L ≤ w.heap.size) (hg : L ≤ g) (hc : ∀ q ∈ cs, L ≤ q.1) : Below L w w' :=
  ⟨h.os, h.tape, h.output, h.size, fun k hk => h.block k (by omega) (by omega) (fun q hq e => by have := hc q hq; omega)⟩
theorem GrM.box {g : Nat} {cs : List MB} {w w' : World} (h : GrM g cs w w') {k T : Nat} {vs : List Value} (hb : Box w k T vs) (h1 : k ≠ g) (h2 : ∀ q ∈ cs, k ≠ q.1) : Box w' k T vs := (h.block k hb.lt h1 h2).trans hb
/-- The box of a result, stored into or not, holds as many cells as it did. -/
theorem GrM.len {g : Nat} {cs : List MB} {w w' : World} (h : GrM g cs w w') {q : MB} (hq : q ∈ cs) {vs : List Value} (hb : Box w q.1 q.2.1 vs) (hl : vs.length = q.2.2.length) : ∃ us, Box w' q.1 q.2.1 us ∧ us.length = q.2.2.length := by
  rcases h.cell q hq with e | e
  · exact ⟨vs, by rw [Box, e]; exact hb, hl⟩
  · exact ⟨_, e, rfl⟩
/-- Which store lays what. -/
def FM (st : List (Nat × MB)) (i : Nat) (w : World) : Prop := ∀ x ∈ st, x.1 = i → Box w x.2.1 x.2.2.1 x.2.2.2
theorem FM.stable {g : Nat} {cs : List MB} {st : List (Nat × MB)} (hs : ∀ x ∈ st, x.2 ∈ cs) : ∀ i w w', FM st i w → GrM g cs w w' → FM st i w' := by
  intro i w w' h hg x hx e
  rcases hg.cell x.2 (hs x hx) with h1 | h1
  · rw [Box, h1]; exact h x hx e
  · exact h1
theorem XHas.of_at {X : List (Tmp × (Value → World → Prop))} {d : Tmp} {v : Value} {w : World} (hnd : (X.map (·.1)).Nodup) (h : vpAt X d v w) : XHas X d v w := by
  induction X with
  | nil => intro q hq; cases hq
  | cons x r ih =>
    obtain ⟨s, p⟩ := x
    simp only [List.map_cons, List.nodup_cons] at hnd
    unfold vpAt at h
    intro q hq e
    rcases List.mem_cons.1 hq with rfl | hq'
    · rw [if_pos e.symm] at h; exact h
    · have hne : ¬ d = s := fun e' => hnd.1 (by rw [← e', ← e]; exact List.mem_map_of_mem hq')
      rw [if_neg hne] at h
      exact ih hnd.2 h q hq' e
theorem XHas.at {X : List (Tmp × (Value → World → Prop))} {d : Tmp} {v : Value} {w : World} (h : XHas X d v w) : vpAt X d v w := by
  induction X with
  | nil => exact trivial
  | cons x r ih =>
    obtain ⟨s, p⟩ := x
    unfold vpAt
    split
    · rename_i e; exact h _ List.mem_cons_self e.symm
    · exact ih (fun q hq e => h q (List.mem_cons_of_mem _ hq) e)
section
variable {G : World → World → Prop} {F : Nat → World → Prop} {tys : List (Tmp × Ty)} {src : List (Tmp × Tmp)} {X : List (Tmp × (Value → World → Prop))} {g p c k i : Nat} {a0 a : Act} {w : World} {Q : Exit → Act → World → Prop} {o : Oper} {d : Tmp} {v : Value}
/-- What only reads, shown by hand. -/
theorem hand_val (hnd : (X.map (·.1)).Nodup) (hG : ∀ w, G w w) (hR : ∃ p', p' ≤ p + c * k ∧ Rd D0 w g p') (hd : o.dst = some d) (hty : tyAt tys d = .any) (hsrc : srcAt src d = none) (hrun : (execOp a.eval o).run Try.prog w = .ok (.value v) w) (hv : vpAt X d v w) :
    Oper.wp Try.prog o a w (PostM G F tys src X D D0 B g p c k i a0 o a w) Q := by
  refine wp_val2 hd hrun ⟨hG w, ?_, ?_⟩
  · obtain ⟨p', h1, h2⟩ := hR
    exact ⟨p', by have : c * (k + 1) = c * k + c := Nat.mul_succ c k; omega, h2⟩
  · rw [hd]
    exact ⟨v, rfl, by rw [hty]; trivial, (fun s hs => by rw [hsrc] at hs; cases hs), XHas.of_at hnd hv⟩
/-- A call that turns the reader, shown by hand. -/
theorem hand_call {Fn : FuncId} {vals : Array Value} (hnd : (X.map (·.1)).Nodup) (hG : ∀ w', w.grownBy w' (some g) → G w w') (hd : o.dst = some d) (hty : tyAt tys d = .any) (hsrc : srcAt src d = none) (hrun : (execOp a.eval o).run Try.prog w = .ok (.enter Fn vals) w)
    (h : Calls Try.prog Fn vals w fun e w' => ∃ v, e = .returned v ∧ vpAt X d v w' ∧ w.grownBy w' (some g) ∧ ∃ p', p' ≤ p + c * (k + 1) ∧ Rd D0 w' g p') :
    Oper.wp Try.prog o a w (PostM G F tys src X D D0 B g p c k i a0 o a w) Q := by
  refine op_call hd hrun (h.mono ?_)
  rintro e w' ⟨v, rfl, hv, hg, hR⟩
  refine ⟨v, rfl, hG w' hg, hR, ?_⟩
  rw [hd]
  exact ⟨v, rfl, by rw [hty]; trivial, (fun s hs => by rw [hsrc] at hs; cases hs), XHas.of_at hnd hv⟩
end
/-- A store into a known box, shown by hand. -/
theorem hand_store {cs : List MB} {st : List (Nat × MB)} {tys : List (Tmp × Ty)} {src : List (Tmp × Tmp)} {X : List (Tmp × (Value → World → Prop))} {g p c k i : Nat} {a0 a : Act} {w w' : World} {Q : Exit → Act → World → Prop} {o : Oper} {q : MB}
    (hq : q ∈ cs) (hdist : ∀ x ∈ cs, x.1 = q.1 → x = q) (hst : ∀ x ∈ st, x.1 = i → x.2 = q) (hR : ∃ p', p' ≤ p + c * k ∧ Rd D0 w g p') (hD : D0 ≤ q.1) (hqg : q.1 ≠ g) (hd : o.dst = none)
    (hrun : (execOp a.eval o).run Try.prog w = .ok .skip w') (hb : Box w' q.1 q.2.1 q.2.2) (hgr : w.grownBy w' (some q.1)) (hlt : ∀ x ∈ cs, x.1 < w.heap.size) :
    Oper.wp Try.prog o a w (PostM (GrM g cs) (FM st) tys src X D D0 B g p c k i a0 o a w) Q := by
  refine wp_skipR hd hrun ⟨⟨hgr.os, hgr.tape, hgr.output, hgr.size, fun j hj _ h2 => hgr.block j hj (fun e => h2 q hq (by simpa using e)), fun x hx => ?_⟩, ?_, ?_⟩
  · by_cases e : x.1 = q.1
    · rw [hdist x hx e]; exact .inr hb
    · exact .inl (hgr.block x.1 (hlt x hx) (fun e' => e (by simpa using e')))
  · obtain ⟨p', h1, h2⟩ := hR
    exact ⟨p', by have : c * (k + 1) = c * k + c := Nat.mul_succ c k; omega, h2.far hgr hD hqg⟩
  · rw [hd]
    refine ⟨rfl, fun x hx e => ?_⟩
    rw [hst x hx e]; exact hb
end Go.Proofs.Ytdkdfehlmphikaa
/- Drawn regions whose operations may be guarded and make memory: each slot's fact stays true whatever the others do. No condition. -/
namespace Go.Proofs.Ytdkdfehlmphikaa
open Go Go.RowKit
section
variable {P : Program} {ops : Array Oper} {Q : Exit → Act → World → Prop}
def headOkW (ops : Array Oper) (size n : Nat) : Bool :=
  (List.range n).all fun i =>
    (match ops[i]? with
      | some o => (match o.dst with | some d => decide (d < size) | none => true) && (o.after.all fun e => !Region.binds .any e || decide (e.on < i))
      | none => false) &&
    (List.range i).all fun j => dstOf ops i == none || decide (dstOf ops j ≠ dstOf ops i)
theorem headOk_specW {size n : Nat} (h : headOkW ops size n = true) {i : Nat} (hi : i < n) :
    ∃ o, ops[i]? = some o ∧ (∀ d, o.dst = some d → d < size ∧ ∀ j, j < i → dstOf ops j ≠ some d) ∧ (∀ e ∈ o.after, Region.binds .any e = true → e.on < i) := by
  have h1 := List.all_eq_true.1 h i (List.mem_range.2 hi)
  simp only [Bool.and_eq_true] at h1
  obtain ⟨h2, h3⟩ := h1
  cases ho : ops[i]? with
  | none => rw [ho] at h2; cases h2
  | some o =>
    rw [ho] at h2
    simp only [Bool.and_eq_true] at h2
    obtain ⟨d, e⟩ := h2
    refine ⟨o, rfl, fun t hd => ?_, fun x hx => ?_⟩
    · rw [hd] at d
      refine ⟨by simpa using d, fun j hj => ?_⟩
      have := List.all_eq_true.1 h3 j (List.mem_range.2 hj)
      have e2 : dstOf ops i = some t := by simp [dstOf, ho, hd]
      rw [e2] at this
      simpa using this
    · obtain ⟨m, hm, rfl⟩ := Array.mem_iff_getElem.1 hx
      have := Array.all_eq_true.1 e m hm
      intro hb
      rw [hb] at this
      simpa using this
def regOkW (ops : Array Oper) (size n : Nat) : Bool :=
  decide (n < ops.size) && Region.sinkB .any ops n && Region.chainB .any ops n && headOkW ops size n && Region.seqB .any ops (ops.size - n) n (Array.replicate n true ++ Array.replicate (ops.size - n) false)
theorem wpAny_typedW {n : Nat} {a0 : Act} {w0 : World} {G : World → World → Prop} {T : Tmp → Value → World → Prop} {F : Nat → Act → World → Prop} {W : Nat → World → Prop} (hGt : ∀ a b c, G a b → G b c → G a c) (l : List Oper) (hl : ops = l.toArray) (hn : n < ops.size)
    (hs : Region.sinkB .any ops n = true) (hc : Region.chainB .any ops n = true) (hok : headOkW ops a0.tmps.size n = true)
    (hseq : Region.seqB .any ops (ops.size - n) n (Array.replicate n true ++ Array.replicate (ops.size - n) false) = true)
    (hT : ∀ d v w w', T d v w → G w w' → T d v w') (hF : ∀ i o a a' w w', i < n → ops[i]? = some o → o.dst = none → F i a w → G w w' → (∀ s, (∃ e ∈ o.after, Region.binds .any e = true ∧ dstOf ops e.on = some s) → a'.tmps.getD s undef = a.tmps.getD s undef) → F i a' w')
    (hop : ∀ i o, i < n → ops[i]? = some o → ∀ k a w, k < n → a.defers = a0.defers → (∀ s, (∀ j, j < n → dstOf ops j ≠ some s) → a.tmps.getD s undef = a0.tmps.getD s undef) →
      (∀ s, (∃ e ∈ o.after, Region.binds .any e = true ∧ dstOf ops e.on = some s) → T s (a.tmps.getD s undef) w) → G w0 w → W k w →
      wpOp P ops Q i (PostS G T F W k i o a w) a w)
    (htail : ∀ a w, a.tmps.size = a0.tmps.size → a.defers = a0.defers → (∀ s, (∀ j, j < n → dstOf ops j ≠ some s) → a.tmps.getD s undef = a0.tmps.getD s undef) →
      (∀ i d, i < n → dstOf ops i = some d → T d (a.tmps.getD d undef) w) → (∀ i o, i < n → ops[i]? = some o → o.dst = none → F i a w) → G w0 w → W n w → wpList P ops Q (l.drop n) a w) :
    ∀ (m : Nat) (L : List Nat) (listed : Array Bool) (k : Nat) (a : Act) (w : World), L.Nodup → L.length = m → (∀ i, i ∈ L ↔ (i < n ∧ listed.getD i true = false)) → k + m = n →
      RInvS ops n a0 w0 G T F W listed k a w → wpAny P .any ops Q (m + (ops.size - n)) listed a w := by
  intro m
  induction m with
  | zero =>
    intro L listed k a w _ hL hmem hk inv
    have hnil : L = [] := List.length_eq_zero_iff.1 hL
    subst hnil
    have hall : ∀ i, i < n → listed.getD i false = true := fun i hi => by
      have h1 : ¬ (i < n ∧ listed.getD i true = false) := fun h => by have := (hmem i).2 h; cases this
      have hsz : i < listed.size := by rw [inv.head.size]; omega
      cases hb : listed[i]'hsz with
      | true => simp [hsz, hb]
      | false => exact absurd ⟨hi, by simp [hsz, hb]⟩ h1
    have hlist : listed = Array.replicate n true ++ Array.replicate (ops.size - n) false := by
      apply Array.ext
      · simp [inv.head.size]; omega
      · intro i h1 h2
        by_cases hi : i < n
        · have := hall i hi
          simp only [Array.getD_eq_getD_getElem?, Array.getElem?_eq_getElem h1, Option.getD_some] at this
          rw [this, Array.getElem_append_left (by simpa using hi)]; simp
        · have := inv.head.tail i (by omega) (by rw [inv.head.size] at h1; exact h1)
          simp only [Array.getD_eq_getD_getElem?, Array.getElem?_eq_getElem h1, Option.getD_some] at this
          rw [this, Array.getElem_append_right (by simpa using hi)]; simp
    obtain rfl : k = n := by omega
    have hw := htail a w inv.size inv.defers inv.frame (fun i d hi hd => inv.typed i d hi hd (hall i hi)) (fun i o hi ho hd => inv.stored i o hi ho hd (hall i hi)) inv.grown inv.cnt
    rw [hlist]
    have hlen : (l.drop k).length = ops.size - k := by rw [hl]; simp
    have := wpAny_of_seq (md := .any) (Q' := Q) (P := P) (ops := ops) (l.drop k) k (Array.replicate k true ++ Array.replicate (ops.size - k) false) a w (fun j => by rw [hl]; simp [List.getElem?_drop]) (by rw [hlen]; exact hseq) hw
    rw [hlen] at this
    rw [Nat.zero_add]
    exact this
  | succ m ih =>
    intro L listed k a w hnd hL hmem hk inv
    rw [show m + 1 + (ops.size - n) = (m + (ops.size - n)) + 1 from by omega]
    -- some operation of the head is open
    have hopen : ∃ i, i < n ∧ listed.getD i true = false := by
      cases hLL : L with
      | nil => rw [hLL] at hL; cases hL
      | cons i r => exact ⟨i, (hmem i).1 (by rw [hLL]; simp)⟩
    have hleast : ∃ i, i < n ∧ listed.getD i true = false ∧ ∀ j, j < i → listed.getD j true ≠ false := by
      obtain ⟨i0, hi0⟩ := hopen
      have : ∀ b i, i ≤ b → i < n → listed.getD i true = false → ∃ i, i < n ∧ listed.getD i true = false ∧ ∀ j, j < i → listed.getD j true ≠ false := by
        intro b
        induction b with
        | zero => intro i hi h1 h2; exact ⟨i, h1, h2, fun j hj => by omega⟩
        | succ b ihb =>
          intro i hi h1 h2
          by_cases h : ∃ j, j < i ∧ listed.getD j true = false
          · obtain ⟨j, hj, hj2⟩ := h; exact ihb j (by omega) (by omega) hj2
          · exact ⟨i, h1, h2, fun j hj hj2 => h ⟨j, hj, hj2⟩⟩
      exact this i0 i0 (Nat.le_refl _) hi0.1 hi0.2
    obtain ⟨i1, hi1, hu1, hmin⟩ := hleast
    have hr1 : i1 ∈ Region.ready .any ops listed := by
      obtain ⟨o, ho, _, haft⟩ := headOk_specW hok hi1
      refine mem_ready.2 ⟨hu1, o, ho, fun e he hb => ?_⟩
      have := hmin e.on (haft e he hb)
      have hsz : e.on < listed.size := by rw [inv.head.size]; have := haft e he hb; omega
      simp only [Array.getD_eq_getD_getElem?, Array.getElem?_eq_getElem hsz, Option.getD_some] at this ⊢
      simpa using this
    refine ⟨fun h0 => (by rw [h0] at hr1; cases hr1), fun i hi => ?_⟩
    have hin : i < n := by
      rcases Nat.lt_or_ge i n with h | h
      · exact h
      · exact absurd hi (tail_waits hs hc hn inv.head _ i1 rfl hi1 hu1 i h)
    obtain ⟨hui, oi, hoi, hall⟩ := mem_ready.1 hi
    obtain ⟨o, ho, hdd, haft⟩ := headOk_specW hok hin
    obtain rfl : oi = o := Option.some.inj (hoi.symm.trans ho)
    have hstep := hop i oi hin ho k a w (by omega) inv.defers inv.frame (fun s ⟨e, he, hb, hes⟩ => inv.typed e.on s (by have := haft e he hb; omega) hes (hall e he hb)) inv.grown inv.cnt
    refine wpOp_mono (fun a' w' hh => ?_) hstep
    obtain ⟨hgr, hW, hh⟩ := hh
    have hmem' : ∀ j, j ∈ L.erase i ↔ (j < n ∧ (listed.setIfInBounds i true).getD j true = false) := by
      intro j
      rw [hnd.mem_erase_iff, hmem j]
      by_cases hji : j = i
      · subst hji
        have hsz : j < listed.size := by rw [inv.head.size]; omega
        simp [hsz]
      · rw [getD_set_ne true (fun h => hji h.symm)]
        exact ⟨fun h => h.2, fun h => ⟨hji, h⟩⟩
    have hlen' : (L.erase i).length = m := by rw [List.length_erase_of_mem ((hmem i).2 ⟨hin, hui⟩), hL]; rfl
    cases hd : oi.dst with
    | none =>
      simp only [hd] at hh
      obtain ⟨rfl, hF'⟩ := hh
      refine ih (L.erase i) (listed.setIfInBounds i true) (k + 1) _ w' (hnd.erase i) hlen' hmem' (by omega) ⟨inv.head.set hi hin, inv.size, inv.defers, inv.frame, ?_, ?_, hGt _ _ _ inv.grown hgr, hW⟩
      · intro j s hj hjs hlj
        by_cases hji : j = i
        · subst hji
          simp [dstOf, ho, hd] at hjs
        · rw [getD_set_ne false (fun h => hji h.symm)] at hlj
          exact hT _ _ _ _ (inv.typed j s hj hjs hlj) hgr
      · intro j oj hj hoj hdj hlj
        by_cases hji : j = i
        · subst hji
          exact hF'
        · rw [getD_set_ne false (fun h => hji h.symm)] at hlj
          exact hF j oj _ _ _ _ hj hoj hdj (inv.stored j oj hj hoj hdj hlj) hgr (fun _ _ => rfl)
    | some d =>
      simp only [hd] at hh
      obtain ⟨v, rfl, hTv⟩ := hh
      obtain ⟨hds, hdist⟩ := hdd d hd
      have hdi : dstOf ops i = some d := by simp [dstOf, ho, hd]
      have hne : ∀ j s, j < n → j ≠ i → dstOf ops j = some s → s ≠ d := by
        intro j s hj hji hjs hsd
        subst hsd
        rcases Nat.lt_or_gt_of_ne hji with h | h
        · exact hdist j h hjs
        · obtain ⟨oj, hoj, hdj, _⟩ := headOk_specW hok hj
          have e1 : oj.dst = some s := by simpa [dstOf, hoj] using hjs
          exact (hdj s e1).2 i h hdi
      refine ih (L.erase i) (listed.setIfInBounds i true) (k + 1) _ w' (hnd.erase i) hlen' hmem' (by omega) ⟨inv.head.set hi hin, ?_, ?_, ?_, ?_, ?_, hGt _ _ _ inv.grown hgr, hW⟩
      · simp [Act.put, inv.size]
      · exact inv.defers
      · intro s hs'
        rw [getD_put (fun h => hs' i hin (by rw [hdi, h]))]
        exact inv.frame s hs'
      · intro j s hj hjs hlj
        by_cases hji : j = i
        · subst hji
          rw [hdi] at hjs
          injection hjs with e
          subst e
          rw [getD_put_same (by rw [inv.size]; exact hds)]
          exact hTv
        · rw [getD_put (hne j s hj hji hjs)]
          rw [getD_set_ne false (fun h => hji h.symm)] at hlj
          exact hT _ _ _ _ (inv.typed j s hj hjs hlj) hgr
      · intro j oj hj hoj hdj hlj
        by_cases hji : j = i
        · subst hji
          rw [hoj] at ho
          injection ho with e
          rw [e, hd] at hdj
          cases hdj
        · rw [getD_set_ne false (fun h => hji h.symm)] at hlj
          refine hF j oj _ _ _ _ hj hoj hdj (inv.stored j oj hj hoj hdj hlj) hgr (fun s ⟨e, he, hb, hes⟩ => ?_)
          have hle := inv.head.closed j oj hoj hlj e he hb
          have hen : e.on < n := by
            obtain ⟨o2, ho2, _, haft2⟩ := headOk_specW hok hj
            have : o2 = oj := Option.some.inj (ho2.symm.trans hoj)
            subst this
            have := haft2 e he hb
            omega
          have hei : e.on ≠ i := by
            intro h
            rw [h] at hle
            rw [getD_both hui] at hle
            cases hle
          exact getD_put (hne e.on s hen hei hes)
theorem region_typedW {id : Nat} {a0 : Act} {w0 : World} {G : World → World → Prop} {T : Tmp → Value → World → Prop} {F : Nat → Act → World → Prop} {W : Nat → World → Prop} (hGr : ∀ a, G a a) (hGt : ∀ a b c, G a b → G b c → G a c) (hm : P.follows .mixedOrders = true) (l : List Oper) (n size : Nat) (hsize : a0.tmps.size = size) (hok : regOkW l.toArray size n = true)
    (hT : ∀ d v w w', T d v w → G w w' → T d v w') (hF : ∀ i o a a' w w', i < n → l.toArray[i]? = some o → o.dst = none → F i a w → G w w' → (∀ s, (∃ e ∈ o.after, Region.binds .any e = true ∧ dstOf l.toArray e.on = some s) → a'.tmps.getD s undef = a.tmps.getD s undef) → F i a' w') (h0 : W 0 w0.drew)
    (hop : AllOps (fun i o => ∀ k a w, k < n → a.defers = a0.defers → (∀ s, (∀ j, j < n → dstOf l.toArray j ≠ some s) → a.tmps.getD s undef = a0.tmps.getD s undef) →
      (∀ s, (∃ e ∈ o.after, Region.binds .any e = true ∧ dstOf l.toArray e.on = some s) → T s (a.tmps.getD s undef) w) → G w0.drew w → W k w →
      wpOp P l.toArray Q i (PostS G T F W k i o a w) a w) 0 (l.take n))
    (htail : ∀ a w, a.tmps.size = size → a.defers = a0.defers → (∀ s, (∀ j, j < n → dstOf l.toArray j ≠ some s) → a.tmps.getD s undef = a0.tmps.getD s undef) →
      (∀ i d, i < n → dstOf l.toArray i = some d → T d (a.tmps.getD d undef) w) → (∀ i o, i < n → l.toArray[i]? = some o → o.dst = none → F i a w) → G w0.drew w → W n w → wpList P l.toArray Q (l.drop n) a w) :
    (Code.region id l.toArray true).wp P Q a0 w0 := by
  subst hsize
  simp only [regOkW, Bool.and_eq_true, decide_eq_true_eq] at hok
  obtain ⟨⟨⟨⟨hn, hs⟩, hc⟩, hh⟩, hseq⟩ := hok
  refine wp_region_any hm ?_
  have inv0 : HeadInv .any l.toArray n (Array.replicate l.toArray.size false) :=
    ⟨by simp, fun j oj _ hl => (by rw [getD_replicate_false] at hl; cases hl), fun t _ ht => getD_in (by simpa using ht) (getD_replicate_false _ _)⟩
  have H := wpAny_typedW (P := P) (Q := Q) (a0 := a0) (w0 := w0.drew) (F := F) hGt l rfl hn hs hc hh hseq hT hF
    (fun i o hi ho k a w hk => by
      have hl : (l.take n)[i]? = some o := by rw [List.getElem?_take, if_pos hi]; simpa using ho
      have := hop.get hl
      rw [Nat.zero_add] at this
      exact this k a w hk)
    htail n (List.range n) (Array.replicate l.toArray.size false) 0 a0 w0.drew List.nodup_range (by simp) (fun i => by
      rw [List.mem_range]
      refine ⟨fun hi => ⟨hi, getD_in (by simp; simp at hn; omega) (getD_replicate_false _ _)⟩, fun h => h.1⟩) (by omega)
    ⟨inv0, rfl, rfl, fun _ _ => rfl, fun i d _ _ hl => (by rw [getD_replicate_false] at hl; cases hl), fun i o _ _ _ hl => (by rw [getD_replicate_false] at hl; cases hl), hGr _, h0⟩
  rw [show n + (l.toArray.size - n) = l.toArray.size from by omega] at H
  exact H
end
/-- What an operation of such a region is asked. -/
def OpW (l : List Oper) (n : Nat) (a0 : Act) (w0 : World) (tys : List (Tmp × SP)) (Q : Exit → Act → World → Prop) (i : Nat) (o : Oper) : Prop :=
  ∀ a w, (∀ s, isDst l.toArray n s = false → a.tmps.getD s undef = a0.tmps.getD s undef) →
     (∀ s, (o.after.any fun e => Region.binds .any e && decide (dstOf l.toArray e.on = some s)) = true → (spAt tys s).Has (a.tmps.getD s undef) w) → Below w0.heap.size w0 w →
     ∃ d, o.dst = some d ∧ wpOp Try.prog l.toArray Q i (fun a' w' => ∃ v, a' = a.put (some d) v ∧ (spAt tys d).Has v w' ∧ Below w.heap.size w w') a w
theorem region_anyW {id : Nat} {a0 : Act} {w0 : World} {Q : Exit → Act → World → Prop} (l : List Oper) (n size : Nat) (ds : List Tmp) (tys : List (Tmp × SP)) (hsize : a0.tmps.size = size)
    (hok : (regOkW l.toArray size n && decide (ds = (List.range n).filterMap (dstOf l.toArray))) = true)
    (hop : AllOps (OpW l n a0 w0 tys Q) 0 (l.take n))
    (htail : ∀ (f : Tmp → Value) (w : World), (∀ d, d ∈ ds → (spAt tys d).Has (f d) w) → Below w0.heap.size w0 w → wpList Try.prog l.toArray Q (l.drop n) (putL ds f a0) w) :
    (Code.region id l.toArray true).wp Try.prog Q a0 w0 := by
  simp only [Bool.and_eq_true, decide_eq_true_eq] at hok
  obtain ⟨h1, hds⟩ := hok
  have hmemds : ∀ s, s ∈ ds ↔ ∃ j, j < n ∧ dstOf l.toArray j = some s := fun s => by
    rw [hds, List.mem_filterMap]
    exact ⟨fun ⟨j, hj, e⟩ => ⟨j, List.mem_range.1 hj, e⟩, fun ⟨j, hj, e⟩ => ⟨j, List.mem_range.2 hj, e⟩⟩
  have hdr : Below w0.heap.size w0 w0.drew := (Below.refl _ _).drew
  refine region_typedW (G := fun w w' => Below w.heap.size w w') (T := fun d => (spAt tys d).Has) (F := fun _ _ _ => True) (W := fun _ _ => True) (fun a => Below.refl _ _) (fun a b c h k => Below.step h k h.size) (by kernel_rfl) l n size hsize h1
    (fun d v w w' hh hg => SP.stable _ hh hg) (fun _ _ _ _ _ _ _ _ _ _ _ _ => trivial) trivial ?_ ?_
  · have hall : ∀ (m : Nat) (r : List Oper), AllOps (OpW l n a0 w0 tys Q) m r → AllOps (fun i o => ∀ k a w, k < n → a.defers = a0.defers → (∀ s, (∀ j, j < n → dstOf l.toArray j ≠ some s) → a.tmps.getD s undef = a0.tmps.getD s undef) →
      (∀ s, (∃ e ∈ o.after, Region.binds .any e = true ∧ dstOf l.toArray e.on = some s) → (spAt tys s).Has (a.tmps.getD s undef) w) → Below w0.drew.heap.size w0.drew w → True →
      wpOp Try.prog l.toArray Q i (PostS (fun w w' => Below w.heap.size w w') (fun d => (spAt tys d).Has) (fun _ _ _ => True) (fun _ _ => True) k i o a w) a w) m r := by
      intro m r
      induction r generalizing m with
      | nil => intro _; trivial
      | cons o r ih =>
        rintro ⟨ho, hr⟩
        refine ⟨?_, ih _ hr⟩
        intro k a w _ _ hfrm hdep hgr _
        obtain ⟨d, hd, hwp⟩ := ho a w (fun s hs => hfrm s fun j hj hjs => by
            have : isDst l.toArray n s = true := List.any_eq_true.2 ⟨j, List.mem_range.2 hj, by simpa using hjs⟩
            rw [this] at hs; cases hs) (fun s hs => by
            obtain ⟨e, he, hb⟩ := Array.any_eq_true'.1 hs
            simp only [Bool.and_eq_true, decide_eq_true_eq] at hb
            exact hdep s ⟨e, he, hb.1, hb.2⟩) (Below.step hdr hgr hdr.size)
        refine wpOp_mono (fun a' w' hg => ?_) hwp
        obtain ⟨v, ha, hT, hgg⟩ := hg
        refine ⟨hgg, trivial, ?_⟩
        rw [hd]
        exact ⟨v, ha, hT⟩
    exact hall 0 _ hop
  · intro a w hsz hdef hfrm htyp _ hgr _
    have hpe := putL_eq (ds := ds) (a0 := a0) (a := a) (by rw [hsz, hsize]) hdef (fun s hs => hfrm s (fun j hj hjs => hs ((hmemds s).2 ⟨j, hj, hjs⟩)))
    rw [← hpe]
    exact htail (fun d => a.tmps.getD d undef) w (fun d hd => by
      obtain ⟨j, hj, hjs⟩ := (hmemds d).1 hd
      exact htyp j d hj hjs) (Below.step hdr hgr hdr.size)
section
variable {l : List Oper} {n : Nat} {a0 : Act} {w0 : World} {tys : List (Tmp × SP)} {Q : Exit → Act → World → Prop} {o : Oper} {i : Nat}
theorem wanted_none {ops : Array Oper} {tm : Array Value} (h : o.guard = none) : Region.wanted o (yielded ops tm) = true := by
  simp [Region.wanted, h]
theorem yielded_of {ops : Array Oper} {tm : Array Value} {g : Nat} {s : Tmp} {b : Bool} (hg : dstOf ops g = some s) (hv : tm.getD s undef = .bool b) : yielded ops tm g = some b := by
  unfold yielded
  have e : (ops[g]?).bind (·.dst) = some s := by
    unfold dstOf at hg
    cases h : ops[g]? with
    | none => rw [h] at hg; cases hg
    | some o => rw [h] at hg; exact hg
  rw [e]
  rw [Array.getD_eq_getD_getElem?] at hv
  cases h : tm[s]? with
  | none => rw [h] at hv; cases hv
  | some v =>
    rw [h] at hv
    simp only [Option.getD_some] at hv
    subst hv
    simp [h]
theorem wanted_of {ops : Array Oper} {tm : Array Value} {g : Nat} {s : Tmp} {b c : Bool} (h : o.guard = some (g, c)) (hg : dstOf ops g = some s) (hv : tm.getD s undef = .bool b) : Region.wanted o (yielded ops tm) = decide (b = c) := by
  have := yielded_of hg hv
  cases b <;> cases c <;> simp [Region.wanted, h, this]
/-- An operation that is done. -/
theorem opW_do (hi : l.toArray[i]? = some o) (hw : ∀ a : Act, ∀ w, (∀ s, (o.after.any fun e => Region.binds .any e && decide (dstOf l.toArray e.on = some s)) = true → (spAt tys s).Has (a.tmps.getD s undef) w) → Region.wanted o (yielded l.toArray a.tmps) = true)
    (h : OpAny l n a0 w0 tys Q i o) : OpW l n a0 w0 tys Q i o := by
  intro a w h1 h2 h3
  obtain ⟨d, hd, hh⟩ := h a w h1 h2 h3
  refine ⟨d, hd, ?_⟩
  unfold wpOp
  rw [hi]
  dsimp only
  rw [if_pos (hw a w h2)]
  exact .inl hh
/-- .. without a guard. -/
theorem opW_free (hi : l.toArray[i]? = some o) (hg : o.guard = none) (h : OpAny l n a0 w0 tys Q i o) : OpW l n a0 w0 tys Q i o := opW_do hi (fun _ _ _ => wanted_none hg) h
/-- .. whose guard holds. -/
theorem opW_want {g : Nat} {s : Tmp} {c : Bool} (hi : l.toArray[i]? = some o) (hg : o.guard = some (g, c)) (hs : dstOf l.toArray g = some s) (hb : (o.after.any fun e => Region.binds .any e && decide (dstOf l.toArray e.on = some s)) = true) (ht : spAt tys s = .val (.bool c)) (h : OpAny l n a0 w0 tys Q i o) : OpW l n a0 w0 tys Q i o :=
  opW_do hi (fun a w h2 => by
    have h3 := h2 s hb
    rw [ht] at h3
    rw [wanted_of hg hs h3]
    simp) h
/-- .. which is passed over: its slot is left without a value. -/
theorem opW_skip {g : Nat} {s d : Tmp} {c b : Bool} (hi : l.toArray[i]? = some o) (hd : o.dst = some d) (hg : o.guard = some (g, c)) (hs : dstOf l.toArray g = some s) (hb : (o.after.any fun e => Region.binds .any e && decide (dstOf l.toArray e.on = some s)) = true) (ht : spAt tys s = .val (.bool b)) (hbc : b ≠ c) (hv : spAt tys d = .val undef) : OpW l n a0 w0 tys Q i o := by
  intro a w h1 h2 h3
  refine ⟨d, hd, ?_⟩
  unfold wpOp
  rw [hi]
  dsimp only
  have h4 := h2 s hb
  rw [ht] at h4
  rw [if_neg (by rw [wanted_of hg hs h4]; simpa using hbc), hd]
  exact ⟨undef, rfl, by rw [hv]; rfl, Below.refl _ _⟩
/-- .. which is passed over since its guard itself was passed over. -/
theorem opW_skip2 {g : Nat} {s d : Tmp} {c : Bool} (hi : l.toArray[i]? = some o) (hd : o.dst = some d) (hg : o.guard = some (g, c)) (hs : dstOf l.toArray g = some s) (hb : (o.after.any fun e => Region.binds .any e && decide (dstOf l.toArray e.on = some s)) = true) (ht : spAt tys s = .val undef) (hv : spAt tys d = .val undef) : OpW l n a0 w0 tys Q i o := by
  intro a w h1 h2 h3
  refine ⟨d, hd, ?_⟩
  unfold wpOp
  rw [hi]
  dsimp only
  have h4 := h2 s hb
  rw [ht] at h4
  have hy : yielded l.toArray a.tmps g = none := by
    unfold yielded
    have e : (l.toArray[g]?).bind (·.dst) = some s := by
      unfold dstOf at hs
      cases h : l.toArray[g]? with
      | none => rw [h] at hs; cases hs
      | some o => rw [h] at hs; exact hs
    rw [e]
    have h5 : a.tmps.getD s undef = undef := h4
    rw [Array.getD_eq_getD_getElem?] at h5
    cases h : a.tmps[s]? with
    | none => simp [h]
    | some v =>
      rw [h] at h5
      simp only [Option.getD_some] at h5
      subst h5
      simp [h, undef]
  rw [if_neg (by simp [Region.wanted, hg, hy]), hd]
  exact ⟨undef, rfl, by rw [hv]; rfl, Below.refl _ _⟩
end
end Go.Proofs.Ytdkdfehlmphikaa
/- Regions that draw their order, whose own operations only read and whose callees make memory: one walk of the lexical order, over the worlds that came of the one at hand. No condition. -/
namespace Go.Proofs.Ytdkdfehlmphikaa
open Go.RowKit
/-- The worlds that came of w by making memory. -/
structure Aft (w : World) where
  W : World
  le : Below w.heap.size w W
instance (w : World) : Nonempty (Aft w) := ⟨⟨w, Below.refl _ _⟩⟩
theorem wp_region_quietC {id : Nat} {Q : Exit → Act → World → Prop} {a : Act} {w : World} {l : List Oper} (hm : Try.prog.follows .mixedOrders = true) (hB : Region.lexB .any l.toArray = true)
    (h : wpQuiet Try.prog l.toArray (fun w' => ∃ n : Aft w, w' = n.W) (fun a' => ∀ w', (∃ n : Aft w, w' = n.W) → Q .normal a' w') l a) : (Code.region id l.toArray true).wp Try.prog Q a w :=
  wp_region_quiet (C := fun w' => ∃ n : Aft w, w' = n.W) hm hB ⟨⟨w.drew, (Below.refl _ _).drew⟩, rfl⟩ (by simpa using h)
theorem aft_call {f : FuncId} {args : Array Value} {w : World} {n : Aft w} {v : Value} (h : Calls Try.prog f args n.W fun e w' => e = .returned v ∧ Below n.W.heap.size n.W w') :
    Calls Try.prog f args n.W fun e w'' => e = .returned v ∧ ∃ m : Aft w, w'' = m.W :=
  h.mono fun _ w'' ⟨he, hb⟩ => ⟨he, ⟨w'', Below.step n.le hb n.le.size⟩, rfl⟩
theorem aft_same {f : FuncId} {args : Array Value} {w : World} {n : Aft w} {v : Value} (h : Calls Try.prog f args n.W fun e w' => e = .returned v ∧ w' = n.W) :
    Calls Try.prog f args n.W fun e w'' => e = .returned v ∧ ∃ m : Aft w, w'' = m.W :=
  h.mono fun _ _ ⟨he, hb⟩ => ⟨he, n, hb⟩
theorem aft_cell {w : World} {p : Addr} {v : Value} (h : w.cell? p = some v) : ∀ n : Aft w, n.W.cell? p = some v := fun n => (n.le.cell (World.block_lt_of_cell? _ _ h)).trans h
end Go.Proofs.Ytdkdfehlmphikaa
