/- Texts laid together (Ints, Box, Reg, Pick, Ty, TyR, TyK, TyT, TyU, RegG, DLaw, App, AppG, Row, Marks, New, RowI, AppA). No condition but what each theorem says. -/
import Derived.Test.YtdkdfehlmphikaaRows
import Derived.WalkKit
import Derived.ProofKit
import Derived.OpenShut
import Derived.ShutString
import Derived.Below
import Derived.Lib.Hide
import Derived.Outline
import Derived.Handy
import Derived.WalkSpells
import Derived.WalkLawsBesides
import Derived.OwnWalk
import Derived.BigQuiet
import Derived.Deep.QuietTactic
import Derived.StillTail
import Derived.StillTailTactics
import Derived.Laws.BitsAllLaws
import Derived.Deep.AppendLies
import Derived.Deep.Onto
import Derived.Deep.RegionHeld3
import Derived.Laws.AppendOwnNone
/- Contracts of the verifier's small functions over lists of ints: toIntS, eqIntS, markIntS, heldIntS. No condition but the bounds that each states. -/
namespace Go.Proofs.Ytdkdfehlmphikaa
open Go.RowKit
/-- a leads to cells that read as the numbers xs (nothing is said where there are none). -/
def Ints (w : World) (a : Option Addr) (xs : List Int) : Prop :=
  xs = [] ∨ ∃ b off, a = some ⟨b, off, none⟩ ∧ b < w.heap.size ∧ ∀ i, i < xs.length → w.cell? ⟨b, off + i, none⟩ = some (.int .i64 (xs.getD i 0))
theorem Ints.below {w w' : World} {a : Option Addr} {xs : List Int} (h : Ints w a xs) (hb : Below w.heap.size w w') : Ints w' a xs := by
  rcases h with h | ⟨b, off, ha, hlt, hc⟩
  · exact .inl h
  · exact .inr ⟨b, off, ha, Nat.lt_of_lt_of_le hlt hb.size, fun i hi => (hb.cell (p := ⟨b, off + i, none⟩) hlt).trans (hc i hi)⟩
theorem Ints.belowB {B : Nat} {w w' : World} {a : Option Addr} {xs : List Int} (h : Ints w a xs) (hb : Below B w w') (hB : ∀ x, a = some x → x.block < B) : Ints w' a xs := by
  rcases h with h | ⟨b, off, ha, hlt, hc⟩
  · exact .inl h
  · exact .inr ⟨b, off, ha, Nat.lt_of_lt_of_le hlt hb.size, fun i hi => (hb.cell (p := ⟨b, off + i, none⟩) (hB ⟨b, off, none⟩ ha)).trans (hc i hi)⟩
theorem ownsRow.ints {w : World} {base e g n cap : Nat} {xs : List Int} (h : w.ownsRow base e 1 (.slice (some ⟨g, 0, none⟩) n cap) n (xs.map (Value.int .i64))) : Ints w (some ⟨g, 0, none⟩) xs := by
  have hl : xs.length = n := by have := h.1; simpa using this
  refine .inr ⟨g, 0, rfl, ?_, fun i hi => ?_⟩
  · exact (h.lt g rfl).2
  · have := h.cellAt i (by omega)
    rw [Nat.zero_add, this, List.getElem?_map, List.getElem?_eq_getElem hi, Option.map_some, List.getD_eq_getElem?_getD, List.getElem?_eq_getElem hi]
    rfl
theorem getD_of_lt {xs : List Int} {i : Nat} (h : i < xs.length) : xs[i]? = some (xs.getD i 0) := by
  rw [List.getD_eq_getElem?_getD, List.getElem?_eq_getElem h]; rfl
/-- A list of cells that reads number by number as xs is xs. -/
theorem cells_eq {C : List Value} {xs : List Int} (hl : C.length = xs.length) (h : ∀ j, j < xs.length → C[j]? = some (.int .i64 (xs.getD j 0))) : C = xs.map (Value.int .i64) := by
  apply List.ext_getElem?
  intro j
  by_cases hj : j < xs.length
  · rw [h j hj, List.getElem?_map, getD_of_lt hj]; rfl
  · rw [List.getElem?_eq_none (by omega), List.getElem?_eq_none (by simp; omega)]
/-- The answer is a new list of the numbers xs; nothing that was there has turned. -/
def RetInts (w : World) (n : Nat) (xs : List Int) (e : Ending) (w' : World) : Prop :=
  ∃ g, e = .returned (.slice (some ⟨g, 0, none⟩) n n) ∧ w'.ownsRow w.heap.size 3 1 (.slice (some ⟨g, 0, none⟩) n n) n (xs.map (Value.int .i64)) ∧ w.grownBy w' none
theorem grown_below {w w' : World} (h : w.grownBy w' none) : Below w.heap.size w w' := (Below.refl _ w).grown h (Nat.le_refl _) (fun _ h => by cases h)
theorem below_grown {w w' : World} (h : Below w.heap.size w w') : w.grownBy w' none := ⟨h.os, h.tape, h.output, h.size, fun k hk _ => h.block k hk⟩
theorem infoInt : (Try.prog.info? 3).map (fun i => (i.zero, i.size, i.bytes)) = some (some (.int .i64 0), 1, 8) := by kernel_rfl

/-- What the walk is told of a slice of integers that came in. -/
def IsRow (k : IntKind) (w : World) (a : Option Addr) (len cap : Nat) (zs : List Int) : Prop :=
  (a = none ∧ len = 0 ∧ cap = 0 ∧ zs = []) ∨
  ∃ x, a = some x ∧ len ≤ cap ∧ cap ≤ maxLen ∧ zs.length = cap ∧ (∀ i, i < zs.length → w.cell? (x.add i) = some (.int k (zs.getD i 0))) ∧ ∀ n ∈ zs, (Lit.int k n).wf = true
theorem IsRow.ints {w : World} {a : Option Addr} {len cap : Nat} {zs : List Int} (h : IsRow .i64 w a len cap zs) : Ints w a (zs.take len) ∧ (zs.take len).length = len := by
  rcases h with ⟨rfl, rfl, rfl, rfl⟩ | ⟨⟨b, off, spot⟩, rfl, hl, hm, hz, hc, _⟩
  · exact ⟨.inl rfl, rfl⟩
  · have hlen : (zs.take len).length = len := by rw [List.length_take]; omega
    refine ⟨?_, hlen⟩
    by_cases h0 : len = 0
    · subst h0; exact .inl (by simp)
    · have h1 := hc 0 (by omega)
      have hs : spot = none := by simpa [Addr.add] using World.cell?_spot h1
      subst hs
      refine .inr ⟨b, off, rfl, World.block_lt_of_cell? w _ h1, fun i hi => ?_⟩
      rw [hlen] at hi
      have h2 := hc i (by omega)
      have e : (zs.take len).getD i 0 = zs.getD i 0 := by rw [List.getD_eq_getElem?_getD, List.getD_eq_getElem?_getD, List.getElem?_take, if_pos hi]
      have ea : (⟨b, off, none⟩ : Addr).add i = ⟨b, off + i, none⟩ := by
        unfold Addr.add
        split
        · rename_i hi0; subst hi0; rfl
        · rfl
      rw [e, ← ea]
      exact h2
/-- Two lists that read as the same numbers are equal. -/
theorem c_eqIntS (a b : Option Addr) (n ca cb : Nat) (xs : List Int) (w : World) (hxs : xs.length = n) (hn : n ≤ 1048576) (ha : Ints w a xs) (hb : Ints w b xs) :
    Calls Try.prog 35 #[.slice a n ca, .slice b n cb] w fun e w' => e = .returned (.bool true) ∧ Below w.heap.size w w' := by
  have HX := Lib.hid hxs
  have HA := Lib.hid ha
  have HB := Lib.hid hb
  clear hxs ha hb
  go_enter Try.func35, Try.ntmps35
  go_wp2
  go_loopw [5] (fun i wr => ∃ (k : Nat), k ≤ n ∧ i = .int .i64 k ∧ Below w.heap.size w wr) (fun i _ => n - (intOf i).toNat)
  case atStart => exact ⟨0, Nat.zero_le _, rfl, Below.refl _ _⟩
  case round =>
    obtain ⟨k, hk, rfl, hG⟩ := hrel
    have HG := Lib.hid hG
    clear hG
    by_cases hlt : k < n
    · rcases HA.out.below HG.out with h0 | ⟨b1, off1, ha, _, hcell1⟩
      · have := HX.out; rw [h0] at this; simp at this; omega
      · rcases HB.out.below HG.out with h0 | ⟨b2, off2, hb, _, hcell2⟩
        · have := HX.out; rw [h0] at this; simp at this; omega
        · have hc1 := hcell1 k (by have := HX.out; omega)
          have hc2 := hcell2 k (by have := HX.out; omega)
          subst ha hb
          clear hcell1 hcell2
          go_wp2
          go_quiet (fail)
          go_wp2
          go_roundw
          case rel => exact ⟨k + 1, by omega, by go_num, below_drewN HG.out _⟩
          case measure => simp [intOf]; omega
    · go_wp2
      go_ret
      exact ⟨rfl, HG.out⟩
end Go.Proofs.Ytdkdfehlmphikaa
/- A struct's own block, known whole; small lemmas on worlds. No program in sight but the seat's own name. -/
namespace Go.Proofs.Ytdkdfehlmphikaa
open Go.RowKit
/-- The block g holds just the cells vs, of element type T, and nothing of it is frozen. -/
def Box (w : World) (g : Nat) (T : TypeId) (vs : List Value) : Prop := w.heap[g]? = some (.cells vs.toArray T (0, 0))
theorem Box.cell {w : World} {g T : Nat} {vs : List Value} (h : Box w g T vs) (i : Nat) : w.cell? ⟨g, i, none⟩ = vs[i]? := by
  rw [cell_of_row w g i _ T (0, 0) h]; simp
theorem Box.frozen {w : World} {g T : Nat} {vs : List Value} (h : Box w g T vs) (i : Nat) : w.frozen? ⟨g, i, none⟩ = false := frozen_of_row w g i _ T h
theorem Box.lt {w : World} {g T : Nat} {vs : List Value} (h : Box w g T vs) : g < w.heap.size := by
  rcases Nat.lt_or_ge g w.heap.size with h' | h'
  · exact h'
  · rw [Box, Array.getElem?_eq_none h'] at h; cases h
theorem Box.new (w : World) (T : TypeId) (vs : List Value) : Box (w.alloc (.cells vs.toArray T)) w.heap.size T vs := heap_alloc_new w _
theorem Box.below {B : Nat} {w w' : World} {g T : Nat} {vs : List Value} (h : Box w g T vs) (hb : Below B w w') (hg : g < B) : Box w' g T vs := (hb.block g hg).trans h
theorem Box.keep {w w' : World} {g T : Nat} {vs : List Value} (h : Box w g T vs) (hb : Below w.heap.size w w') : Box w' g T vs := h.below hb h.lt
theorem Box.alloc {w : World} {g T : Nat} {vs : List Value} (h : Box w g T vs) (o : Obj) : Box (w.alloc o) g T vs := (Below.heap_alloc w o g h.lt).trans h
theorem Box.drew {w : World} {g T : Nat} {vs : List Value} (h : Box w g T vs) : Box w.drew g T vs := h
theorem Box.drewN {w : World} {g T : Nat} {vs : List Value} (h : Box w g T vs) (n : Nat) : Box (w.drewN n) g T vs := h
theorem Box.other {w : World} {g T : Nat} {vs : List Value} (h : Box w g T vs) {p : Addr} (hp : g ≠ p.block) (u : Value) : Box (w.setCell p u) g T vs := (Below.heap_setCell w p u g hp).trans h
theorem Box.set {w : World} {g T : Nat} {vs : List Value} (h : Box w g T vs) (i : Nat) (u : Value) : Box (w.setCell ⟨g, i, none⟩ u) g T (vs.set i u) := by
  have := heap_setCell_same w g i _ T u h
  rw [Box, this]; simp
theorem keep {w : World} {p : Addr} {v : Value} (h : w.cell? p = some v) (o : Obj) : (w.alloc o).cell? p = some v := (World.cell?_alloc_lt _ _ _ (World.block_lt_of_cell? w p h)).trans h
theorem Below.step {B : Nat} {w0 w1 w2 : World} (h : Below B w0 w1) (hb : Below w1.heap.size w1 w2) (hB : B ≤ w1.heap.size) : Below B w0 w2 := h.trans (hb.mono hB)
theorem ret_int {a b : Int} (h : a = b) : Ending.returned (.int .i64 a) = .returned (.int .i64 b) := by rw [h]
theorem ret_bool {a b : Bool} (h : a = b) : Ending.returned (.bool a) = .returned (.bool b) := by rw [h]
theorem bcell {W w1 : World} (hb : Below W.heap.size W w1) : (∀ b o, b < W.heap.size → w1.cell? ⟨b, o, none⟩ = W.cell? ⟨b, o, none⟩) ∧ (∀ b o, b < W.heap.size → w1.frozen? ⟨b, o, none⟩ = W.frozen? ⟨b, o, none⟩) ∧ W.heap.size ≤ w1.heap.size :=
  ⟨fun b o h => hb.cell (p := ⟨b, o, none⟩) h, fun b o h => hb.frozen (p := ⟨b, o, none⟩) h, hb.size⟩
/-- n lies in lo..hi. -/
def inB (n lo hi : Int) : Bool := decide (lo ≤ n) && decide (n ≤ hi)
theorem inB_true {n lo hi : Int} : inB n lo hi = true ↔ lo ≤ n ∧ n ≤ hi := by simp [inB]
theorem inB_false {n lo hi : Int} : inB n lo hi = false ↔ n < lo ∨ hi < n := by
  rw [← Bool.not_eq_true, inB_true]; omega
theorem c_in (n lo hi : Int) (w : World) :
    Calls Try.prog 63 #[.int .i64 n, .int .i64 lo, .int .i64 hi] w fun e w' => e = .returned (.bool (inB n lo hi)) ∧ w = w' := by
  by_cases h1 : lo ≤ n <;> by_cases h2 : n ≤ hi
  all_goals
    go_enter Try.func63, Try.ntmps63
    go_wp2
    go_ret
    exact ⟨by simp [inB, h1, h2], rfl⟩
theorem c_l1In (n lo hi : Int) (w : World) :
    Calls Try.prog 87 #[.int .i64 n, .int .i64 lo, .int .i64 hi] w fun e w' => e = .returned (.bool (inB n lo hi)) ∧ w = w' := by
  by_cases h1 : lo ≤ n <;> by_cases h2 : n ≤ hi
  all_goals
    go_enter Try.func87, Try.ntmps87
    go_wp2
    go_ret
    exact ⟨by simp [inB, h1, h2], rfl⟩
end Go.Proofs.Ytdkdfehlmphikaa
/- A law on regions that draw their order: what each operation leaves is said by its slot alone ('T'), and stays true whatever the others do; then the order does not matter, and each operation is looked at once. No program in sight. -/
namespace Go.Proofs.Ytdkdfehlmphikaa
open Go Go.RowKit
section
variable {P : Program} {ops : Array Oper} {Q : Exit → Act → World → Prop}
def dstOf (ops : Array Oper) (i : Nat) : Option Tmp := (ops[i]?).bind (·.dst)
/-- What the shape of the region must be: the first n operations have slots of their own, no guard, and wait only for those before them. -/
def headOk (ops : Array Oper) (size n : Nat) : Bool :=
  (List.range n).all fun i =>
    (match ops[i]? with
      | some o => o.guard.isNone && (match o.dst with | some d => decide (d < size) | none => false) && (o.after.all fun e => !Region.binds .any e || decide (e.on < i))
      | none => false) &&
    (List.range i).all fun j => decide (dstOf ops j ≠ dstOf ops i)
theorem headOk_spec {size n : Nat} (h : headOk ops size n = true) {i : Nat} (hi : i < n) :
    ∃ o d, ops[i]? = some o ∧ o.guard = none ∧ o.dst = some d ∧ d < size ∧ (∀ e ∈ o.after, Region.binds .any e = true → e.on < i) ∧ ∀ j, j < i → dstOf ops j ≠ some d := by
  have h1 := List.all_eq_true.1 h i (List.mem_range.2 hi)
  simp only [Bool.and_eq_true] at h1
  obtain ⟨h2, h3⟩ := h1
  cases ho : ops[i]? with
  | none => rw [ho] at h2; cases h2
  | some o =>
    rw [ho] at h2
    simp only [Bool.and_eq_true] at h2
    obtain ⟨⟨g, d⟩, e⟩ := h2
    cases hd : o.dst with
    | none => rw [hd] at d; cases d
    | some t =>
      rw [hd] at d
      refine ⟨o, t, rfl, by simpa using g, hd, by simpa using d, fun x hx => ?_, fun j hj => ?_⟩
      · obtain ⟨m, hm, rfl⟩ := Array.mem_iff_getElem.1 hx
        have := Array.all_eq_true.1 e m hm
        intro hb
        rw [hb] at this
        simpa using this
      · have := List.all_eq_true.1 h3 j (List.mem_range.2 hj)
        have e2 : dstOf ops i = some t := by simp [dstOf, ho, hd]
        rw [e2] at this
        simpa using this
/-- The state in the middle of the region. -/
structure RInv (ops : Array Oper) (n : Nat) (a0 : Act) (w0 : World) (g : Nat) (T : Tmp → Value → World → Prop) (W : Nat → World → Prop) (listed : Array Bool) (k : Nat) (a : Act) (w : World) : Prop where
  head : HeadInv .any ops n listed
  size : a.tmps.size = a0.tmps.size
  defers : a.defers = a0.defers
  frame : ∀ s, (∀ i, i < n → dstOf ops i ≠ some s) → a.tmps.getD s undef = a0.tmps.getD s undef
  typed : ∀ i d, i < n → dstOf ops i = some d → listed.getD i false = true → T d (a.tmps.getD d undef) w
  grown : w0.grownBy w (some g)
  cnt : W k w
theorem getD_put {a : Act} {d s : Tmp} {v : Value} (h : s ≠ d) : (a.put (some d) v).tmps.getD s undef = a.tmps.getD s undef := by
  simp only [Act.put, Array.getD_eq_getD_getElem?]
  rw [Array.getElem?_setIfInBounds_ne (fun e => h e.symm)]
theorem getD_put_same {a : Act} {d : Tmp} {v : Value} (h : d < a.tmps.size) : (a.put (some d) v).tmps.getD d undef = v := by
  simp only [Act.put, Array.getD_eq_getD_getElem?]
  rw [Array.getElem?_setIfInBounds_self_of_lt h]; rfl
theorem grownBy_tr {a b c : World} {r : Option Nat} (h : a.grownBy b r) (k : b.grownBy c r) : a.grownBy c r :=
  ⟨k.os.trans h.os, k.tape.trans h.tape, k.output.trans h.output, Nat.le_trans h.size k.size, fun i hi hr => (k.block i (Nat.lt_of_lt_of_le hi h.size) hr).trans (h.block i hi hr)⟩
theorem grownBy_rfl (a : World) (r : Option Nat) : a.grownBy a r := ⟨rfl, rfl, rfl, Nat.le_refl _, fun _ _ _ => rfl⟩
theorem grownBy_alloc (a : World) (r : Option Nat) (o : Obj) : a.grownBy (a.alloc o) r := ⟨rfl, rfl, rfl, by simp, fun k hk _ => Below.heap_alloc a o k hk⟩
theorem wpAny_typed {n g : Nat} {a0 : Act} {w0 : World} {T : Tmp → Value → World → Prop} {W : Nat → World → Prop} (l : List Oper) (hl : ops = l.toArray) (hn : n < ops.size)
    (hs : Region.sinkB .any ops n = true) (hc : Region.chainB .any ops n = true) (hok : headOk ops a0.tmps.size n = true)
    (hseq : Region.seqB .any ops (ops.size - n) n (Array.replicate n true ++ Array.replicate (ops.size - n) false) = true)
    (hT : ∀ d v w w', T d v w → w.grownBy w' (some g) → T d v w')
    (hop : ∀ i o d, i < n → ops[i]? = some o → o.dst = some d → ∀ k a w, k < n → a.defers = a0.defers → (∀ s, (∀ j, j < n → dstOf ops j ≠ some s) → a.tmps.getD s undef = a0.tmps.getD s undef) →
      (∀ s, (∃ e ∈ o.after, Region.binds .any e = true ∧ dstOf ops e.on = some s) → T s (a.tmps.getD s undef) w) → w0.grownBy w (some g) → W k w →
      Oper.wp P o a w (fun a' w' => ∃ v, a' = a.put (some d) v ∧ T d v w' ∧ w.grownBy w' (some g) ∧ W (k + 1) w') Q)
    (htail : ∀ a w, a.tmps.size = a0.tmps.size → a.defers = a0.defers → (∀ s, (∀ j, j < n → dstOf ops j ≠ some s) → a.tmps.getD s undef = a0.tmps.getD s undef) →
      (∀ i d, i < n → dstOf ops i = some d → T d (a.tmps.getD d undef) w) → w0.grownBy w (some g) → W n w → wpList P ops Q (l.drop n) a w) :
    ∀ (m : Nat) (L : List Nat) (listed : Array Bool) (k : Nat) (a : Act) (w : World), L.Nodup → L.length = m → (∀ i, i ∈ L ↔ (i < n ∧ listed.getD i true = false)) → k + m = n →
      RInv ops n a0 w0 g T W listed k a w → wpAny P .any ops Q (m + (ops.size - n)) listed a w := by
  intro m
  induction m with
  | zero =>
    intro L listed k a w _ hL hmem hk inv
    have hnil : L = [] := List.length_eq_zero_iff.1 hL
    subst hnil
    have hall : ∀ i, i < n → listed.getD i false = true := fun i hi => by
      have h1 : ¬ (i < n ∧ listed.getD i true = false) := fun h => by have := (hmem i).2 h; cases this
      have hsz : i < listed.size := by rw [inv.head.size]; omega
      cases hb : listed[i]'hsz with
      | true => simp [hsz, hb]
      | false => exact absurd ⟨hi, by simp [hsz, hb]⟩ h1
    have hlist : listed = Array.replicate n true ++ Array.replicate (ops.size - n) false := by
      apply Array.ext
      · simp [inv.head.size]; omega
      · intro i h1 h2
        by_cases hi : i < n
        · have := hall i hi
          simp only [Array.getD_eq_getD_getElem?, Array.getElem?_eq_getElem h1, Option.getD_some] at this
          rw [this, Array.getElem_append_left (by simpa using hi)]; simp
        · have := inv.head.tail i (by omega) (by rw [inv.head.size] at h1; exact h1)
          simp only [Array.getD_eq_getD_getElem?, Array.getElem?_eq_getElem h1, Option.getD_some] at this
          rw [this, Array.getElem_append_right (by simpa using hi)]; simp
    obtain rfl : k = n := by omega
    have hw := htail a w inv.size inv.defers inv.frame (fun i d hi hd => inv.typed i d hi hd (hall i hi)) inv.grown inv.cnt
    rw [hlist]
    have hlen : (l.drop k).length = ops.size - k := by rw [hl]; simp
    have := wpAny_of_seq (md := .any) (Q' := Q) (P := P) (ops := ops) (l.drop k) k (Array.replicate k true ++ Array.replicate (ops.size - k) false) a w (fun j => by rw [hl]; simp [List.getElem?_drop]) (by rw [hlen]; exact hseq) hw
    rw [hlen] at this
    rw [Nat.zero_add]
    exact this
  | succ m ih =>
    intro L listed k a w hnd hL hmem hk inv
    rw [show m + 1 + (ops.size - n) = (m + (ops.size - n)) + 1 from by omega]
    -- some operation of the head is open
    have hopen : ∃ i, i < n ∧ listed.getD i true = false := by
      cases hLL : L with
      | nil => rw [hLL] at hL; cases hL
      | cons i r => exact ⟨i, (hmem i).1 (by rw [hLL]; simp)⟩
    have hleast : ∃ i, i < n ∧ listed.getD i true = false ∧ ∀ j, j < i → listed.getD j true ≠ false := by
      obtain ⟨i0, hi0⟩ := hopen
      have : ∀ b i, i ≤ b → i < n → listed.getD i true = false → ∃ i, i < n ∧ listed.getD i true = false ∧ ∀ j, j < i → listed.getD j true ≠ false := by
        intro b
        induction b with
        | zero => intro i hi h1 h2; exact ⟨i, h1, h2, fun j hj => by omega⟩
        | succ b ihb =>
          intro i hi h1 h2
          by_cases h : ∃ j, j < i ∧ listed.getD j true = false
          · obtain ⟨j, hj, hj2⟩ := h; exact ihb j (by omega) (by omega) hj2
          · exact ⟨i, h1, h2, fun j hj hj2 => h ⟨j, hj, hj2⟩⟩
      exact this i0 i0 (Nat.le_refl _) hi0.1 hi0.2
    obtain ⟨i1, hi1, hu1, hmin⟩ := hleast
    have hr1 : i1 ∈ Region.ready .any ops listed := by
      obtain ⟨o, d, ho, _, _, _, haft, _⟩ := headOk_spec hok hi1
      refine mem_ready.2 ⟨hu1, o, ho, fun e he hb => ?_⟩
      have := hmin e.on (haft e he hb)
      have hsz : e.on < listed.size := by rw [inv.head.size]; have := haft e he hb; omega
      simp only [Array.getD_eq_getD_getElem?, Array.getElem?_eq_getElem hsz, Option.getD_some] at this ⊢
      simpa using this
    refine ⟨fun h0 => (by rw [h0] at hr1; cases hr1), fun i hi => ?_⟩
    have hin : i < n := by
      rcases Nat.lt_or_ge i n with h | h
      · exact h
      · exact absurd hi (tail_waits hs hc hn inv.head _ i1 rfl hi1 hu1 i h)
    obtain ⟨hui, oi, hoi, hall⟩ := mem_ready.1 hi
    obtain ⟨o, d, ho, hg, hd, hds, haft, hdist⟩ := headOk_spec hok hin
    obtain rfl : oi = o := Option.some.inj (hoi.symm.trans ho)
    have hstep := hop i oi d hin ho hd k a w (by omega) inv.defers inv.frame (fun s ⟨e, he, hb, hes⟩ => inv.typed e.on s (by have := haft e he hb; omega) hes (hall e he hb)) inv.grown inv.cnt
    have hw : wpOp P ops Q i (fun a' w' => ∃ v, a' = a.put (some d) v ∧ T d v w' ∧ w.grownBy w' (some g) ∧ W (k + 1) w') a w := by
      unfold wpOp
      simp only [ho]
      rw [if_pos (by simp [Region.wanted, hg])]
      exact .inl hstep
    refine wpOp_mono (fun a' w' hh => ?_) hw
    obtain ⟨v, rfl, hTv, hgr, hW⟩ := hh
    have hdi : dstOf ops i = some d := by simp [dstOf, ho, hd]
    have hne : ∀ j s, j < n → j ≠ i → dstOf ops j = some s → s ≠ d := by
      intro j s hj hji hjs hsd
      subst hsd
      rcases Nat.lt_or_gt_of_ne hji with h | h
      · exact hdist j h hjs
      · obtain ⟨oj, dj, hoj, _, hdj, _, _, hdd⟩ := headOk_spec hok hj
        have : dstOf ops j = some dj := by simp [dstOf, hoj, hdj]
        rw [this] at hjs
        injection hjs with e
        exact hdd i h (by rw [hdi, e])
    refine ih (L.erase i) (listed.setIfInBounds i true) (k + 1) _ w' (hnd.erase i) ?_ ?_ (by omega) ⟨inv.head.set hi hin, ?_, ?_, ?_, ?_, grownBy_tr inv.grown hgr, hW⟩
    · rw [List.length_erase_of_mem ((hmem i).2 ⟨hin, hui⟩), hL]; rfl
    · intro j
      rw [hnd.mem_erase_iff, hmem j]
      by_cases hji : j = i
      · subst hji
        have hsz : j < listed.size := by rw [inv.head.size]; omega
        simp [hsz]
      · rw [getD_set_ne true (fun h => hji h.symm)]
        exact ⟨fun h => h.2, fun h => ⟨hji, h⟩⟩
    · simp [Act.put, inv.size]
    · exact inv.defers
    · intro s hs'
      rw [getD_put (fun h => hs' i hin (by rw [hdi, h]))]
      exact inv.frame s hs'
    · intro j s hj hjs hlj
      by_cases hji : j = i
      · subst hji
        rw [hdi] at hjs
        injection hjs with e
        subst e
        rw [getD_put_same (by rw [inv.size]; exact hds)]
        exact hTv
      · rw [getD_put (hne j s hj hji hjs)]
        rw [getD_set_ne false (fun h => hji h.symm)] at hlj
        exact hT _ _ _ _ (inv.typed j s hj hjs hlj) hgr
/-- One statement for each operation. -/
def AllOps (p : Nat → Oper → Prop) : Nat → List Oper → Prop
  | _, [] => True
  | k, o :: l => p k o ∧ AllOps p (k + 1) l
theorem AllOps.get {p : Nat → Oper → Prop} : ∀ {l : List Oper} {k : Nat} {j : Nat} {o : Oper}, AllOps p k l → l[j]? = some o → p (k + j) o
  | [], _, _, _, _, h => by simp at h
  | _ :: _, _, 0, _, ha, h => by
    simp only [List.getElem?_cons_zero, Option.some.injEq] at h
    subst h
    exact ha.1
  | _ :: l, k, j + 1, _, ha, h => by
    have := AllOps.get (l := l) (k := k + 1) (j := j) ha.2 (by simpa using h)
    rw [show k + (j + 1) = k + 1 + j from by omega]
    exact this
def regOk (ops : Array Oper) (size n : Nat) : Bool :=
  decide (n < ops.size) && Region.sinkB .any ops n && Region.chainB .any ops n && headOk ops size n && Region.seqB .any ops (ops.size - n) n (Array.replicate n true ++ Array.replicate (ops.size - n) false)
theorem region_typed {id : Nat} {a0 : Act} {w0 : World} (hm : P.follows .mixedOrders = true) (l : List Oper) (n size g : Nat) (hsize : a0.tmps.size = size) (hok : regOk l.toArray size n = true)
    (T : Tmp → Value → World → Prop) (W : Nat → World → Prop) (hT : ∀ d v w w', T d v w → w.grownBy w' (some g) → T d v w') (h0 : W 0 w0.drew)
    (hop : AllOps (fun _ o => ∀ d, o.dst = some d → ∀ k a w, k < n → a.defers = a0.defers → (∀ s, (∀ j, j < n → dstOf l.toArray j ≠ some s) → a.tmps.getD s undef = a0.tmps.getD s undef) →
      (∀ s, (∃ e ∈ o.after, Region.binds .any e = true ∧ dstOf l.toArray e.on = some s) → T s (a.tmps.getD s undef) w) → w0.drew.grownBy w (some g) → W k w →
      Oper.wp P o a w (fun a' w' => ∃ v, a' = a.put (some d) v ∧ T d v w' ∧ w.grownBy w' (some g) ∧ W (k + 1) w') Q) 0 (l.take n))
    (htail : ∀ a w, a.tmps.size = size → a.defers = a0.defers → (∀ s, (∀ j, j < n → dstOf l.toArray j ≠ some s) → a.tmps.getD s undef = a0.tmps.getD s undef) →
      (∀ i d, i < n → dstOf l.toArray i = some d → T d (a.tmps.getD d undef) w) → w0.drew.grownBy w (some g) → W n w → wpList P l.toArray Q (l.drop n) a w) :
    (Code.region id l.toArray true).wp P Q a0 w0 := by
  subst hsize
  simp only [regOk, Bool.and_eq_true, decide_eq_true_eq] at hok
  obtain ⟨⟨⟨⟨hn, hs⟩, hc⟩, hh⟩, hseq⟩ := hok
  refine wp_region_any hm ?_
  have inv0 : HeadInv .any l.toArray n (Array.replicate l.toArray.size false) :=
    ⟨by simp, fun j oj _ hl => (by rw [getD_replicate_false] at hl; cases hl), fun t _ ht => getD_in (by simpa using ht) (getD_replicate_false _ _)⟩
  have H := wpAny_typed (P := P) (Q := Q) (g := g) (a0 := a0) (w0 := w0.drew) (T := T) (W := W) l rfl hn hs hc hh hseq hT
    (fun i o d hi ho hd k a w hk => by
      have hl : (l.take n)[i]? = some o := by rw [List.getElem?_take, if_pos hi]; simpa using ho
      have := hop.get hl
      exact this d hd k a w hk)
    htail n (List.range n) (Array.replicate l.toArray.size false) 0 a0 w0.drew List.nodup_range (by simp) (fun i => by
      rw [List.mem_range]
      refine ⟨fun hi => ⟨hi, getD_in (by simp; simp at hn; omega) (getD_replicate_false _ _)⟩, fun h => h.1⟩) (by omega)
    ⟨inv0, rfl, rfl, fun _ _ => rfl, fun i d _ _ hl => (by rw [getD_replicate_false] at hl; cases hl), grownBy_rfl _ _, h0⟩
  rw [show n + (l.toArray.size - n) = l.toArray.size from by omega] at H
  exact H
end
end Go.Proofs.Ytdkdfehlmphikaa
/- The reader of the verifier's draws: l20Open, pick, odd: whatever is drawn lies in the range that is asked. No condition but a reader that is read less than a million times. -/
namespace Go.Proofs.Ytdkdfehlmphikaa
open Go.RowKit
variable {D : Nat}
/-- The block g is a reader at position p. -/
def Rd (D : Nat) (w : World) (g : Nat) (p : Nat) : Prop :=
  D ≤ g ∧ ∃ a len cap, w.heap[g]? = some (.cells #[.slice a len cap, .int .i64 p] 118 (0, 0)) ∧ len ≤ 2000 ∧
    (len = 0 ∨ ∃ b off, a = some ⟨b, off, none⟩ ∧ b < D ∧ b < w.heap.size ∧ ∀ i, i < len → ∃ x : Int, w.cell? ⟨b, off + i, none⟩ = some (.int .u8 x) ∧ 0 ≤ x ∧ x ≤ 255)
theorem Rd.lt {w : World} {g p : Nat} (h : Rd D w g p) : g < w.heap.size := by
  obtain ⟨_, a, len, cap, h1, _⟩ := h
  rcases Nat.lt_or_ge g w.heap.size with h' | h'
  · exact h'
  · rw [Array.getElem?_eq_none h'] at h1; cases h1
/-- The reader stands in a world in which at most new blocks have come. -/
theorem Rd.keep {w w' : World} {g p : Nat} (h : Rd D w g p) (hb : w.grownBy w' none) : Rd D w' g p := by
  have hlt := h.lt
  obtain ⟨hDg, a, len, cap, h1, h2, h3⟩ := h
  refine ⟨hDg, a, len, cap, (hb.block g hlt (by simp)).trans h1, h2, h3.imp id ?_⟩
  rintro ⟨b, off, ha, hne, hlt2, hc⟩
  exact ⟨b, off, ha, hne, Nat.lt_of_lt_of_le hlt2 hb.size, fun i hi => by
    obtain ⟨x, hx, hx2⟩ := hc i hi
    exact ⟨x, (World.cell?_of_block (hb.block b hlt2 (by simp))).trans hx, hx2⟩⟩
/-- A number of lo..hi is drawn; the reader stands one further; besides the reader nothing that was there has turned. -/
def RetPick (D : Nat) (w : World) (g p : Nat) (n : Int) (e : Ending) (w' : World) : Prop :=
  ∃ x : Int, e = .returned (.int .i64 x) ∧ 0 ≤ x ∧ (1 ≤ n → x < n) ∧ (n < 1 → x = 0) ∧ Rd D w' g (p + 1) ∧ w.grownBy w' (some g)
theorem grownBy_set (w : World) (g i : Nat) (u : Value) : w.grownBy (w.setCell ⟨g, i, none⟩ u) (some g) :=
  ⟨rfl, rfl, rfl, by simp, fun k _ hk => heap_setCell_other w ⟨g, i, none⟩ k u (fun e => hk (by simp [e]))⟩
theorem grownBy_drewN {a w : World} {r : Option Nat} (h : a.grownBy w r) (n : Nat) : a.grownBy (w.drewN n) r := grownBy_tr h ⟨rfl, rfl, rfl, Nat.le_refl _, fun _ _ _ => rfl⟩
theorem Rd.step {w : World} {g p : Nat} (h : Rd D w g p) : Rd D (w.setCell ⟨g, 1, none⟩ (.int .i64 ((p + 1 : Nat) : Int))) g (p + 1) := by
  obtain ⟨hDg, a, len, cap, h1, h2, h3⟩ := h
  refine ⟨hDg, a, len, cap, ?_, h2, h3.imp id ?_⟩
  · rw [heap_setCell_same w g 1 _ _ _ h1]; rfl
  · rintro ⟨b, off, ha, hne, hlt2, hc⟩
    exact ⟨b, off, ha, hne, by simpa using hlt2, fun i hi => by
      obtain ⟨x, hx, hx2⟩ := hc i hi
      exact ⟨x, (World.cell?_of_block (heap_setCell_other w ⟨g, 1, none⟩ b _ (by simp only []; omega))).trans hx, hx2⟩⟩
/-- A store into a block of one's own that is not the reader's. -/
theorem Rd.other {w : World} {g p b : Nat} (h : Rd D w g p) (hD : D ≤ b) (hb : b ≠ g) (i : Nat) (u : Value) : Rd D (w.setCell ⟨b, i, none⟩ u) g p := by
  obtain ⟨hDg, a, len, cap, h1, h2, h3⟩ := h
  refine ⟨hDg, a, len, cap, (heap_setCell_other w ⟨b, i, none⟩ g u (fun e => hb e.symm)).trans h1, h2, h3.imp id ?_⟩
  rintro ⟨c, off, ha, hne, hlt2, hc⟩
  exact ⟨c, off, ha, hne, by simpa using hlt2, fun j hj => by
    obtain ⟨x, hx, hx2⟩ := hc j hj
    exact ⟨x, (World.cell?_of_block (heap_setCell_other w ⟨b, i, none⟩ c u (by simp only []; omega))).trans hx, hx2⟩⟩
theorem Rd.drewN {w : World} {g p : Nat} (h : Rd D w g p) (n : Nat) : Rd D (w.drewN n) g p := h
theorem xor_small (a b : Int) (h1 : 0 ≤ a) (h2 : a ≤ 4000000000) (h3 : 0 ≤ b) (h4 : b ≤ 4000000000) : 0 ≤ bits .xor .i64 a b ∧ bits .xor .i64 a b < 4294967296 := by
  obtain ⟨m, rfl⟩ := Int.eq_ofNat_of_zero_le h1
  obtain ⟨k, rfl⟩ := Int.eq_ofNat_of_zero_le h3
  have hx : m ^^^ k < 2 ^ 32 := Nat.xor_lt_two_pow (by omega) (by omega)
  have e1 : (BitVec.ofInt 64 (m : Int)).toNat = m := by
    rw [BitVec.ofInt_natCast, BitVec.toNat_ofNat]; exact Nat.mod_eq_of_lt (by omega)
  have e2 : (BitVec.ofInt 64 (k : Int)).toNat = k := by
    rw [BitVec.ofInt_natCast, BitVec.toNat_ofNat]; exact Nat.mod_eq_of_lt (by omega)
  have e3 : bits .xor .i64 (m : Int) (k : Int) = ((m ^^^ k : Nat) : Int) := by
    show IntKind.i64.wrap ((BitVec.ofInt 64 (m : Int) ^^^ BitVec.ofInt 64 (k : Int)).toNat : Int) = _
    rw [BitVec.toNat_xor, e1, e2]
    exact IntWalk.i64_in _ (by omega)
  rw [e3]
  omega
set_option maxHeartbeats 1000000 in
theorem c_pick (g p : Nat) (n : Int) (w : World) (h : Rd D w g p) (hp : p ≤ 1000000) (n1 : -1000000000 ≤ n) (n2 : n ≤ 1000000000) :
    Calls Try.prog 55 #[.pointer (some ⟨g, 0, none⟩), .int .i64 n] w (RetPick D w g p n) := by
  have HS := Lib.hid h.step
  obtain ⟨hDg, a, len, cap, h1, h2, h3⟩ := h
  have HG := Lib.hid (grownBy_set w g 1 (.int .i64 ((p + 1 : Nat) : Int)))
  have ec : ((p + 1 : Nat) : Int) = (p : Int) + 1 := by omega
  rw [ec] at HS HG
  clear ec
  have c0 := cell_of_row w g 0 _ _ _ h1
  have c1 := cell_of_row w g 1 _ _ _ h1
  have f0 := frozen_of_row w g 0 _ _ h1
  have f1 := frozen_of_row w g 1 _ _ h1
  simp only [List.getElem?_toArray, List.getElem?_cons_zero, List.getElem?_cons_succ] at c0 c1
  have HH := Lib.hid h1
  clear h1
  by_cases hn : n < 1
  · clear h3
    go_enter Try.func55, Try.ntmps55
    go_wp2
    go_ret
    exact ⟨0, rfl, Int.le_refl _, fun h => by omega, fun _ => rfl, HS.out, HG.out⟩
  by_cases hl : len = 0
  · subst hl
    clear h3
    go_enter Try.func55, Try.ntmps55
    go_wp2
    go_ret
    exact ⟨0, rfl, Int.le_refl _, fun h => by omega, fun _ => rfl, HS.out, HG.out⟩
  have hn' : 1 ≤ n := by omega
  have hl0 : 0 < len := by omega
  have hl' : ((len : Int) == 0) = false := by simp; omega
  rcases h3 with h3 | ⟨b, off, rfl, hne, hlt, hcell⟩
  · exact absurd h3 hl
  have hne' : g ≠ b := by omega
  have hne'' : b ≠ g := by omega
  have HC := Lib.hid hcell
  clear hcell
  by_cases hpl : p < len
  · obtain ⟨x, hx, x1, x2⟩ := HC.out p hpl
    go_enter Try.func55, Try.ntmps55
    go_wp2
    go_ret
    refine ⟨x % n, ?_, Int.emod_nonneg _ (by omega), fun _ => Int.emod_lt_of_pos _ (by omega), fun h => by omega, HS.out, HG.out⟩
    rfl
  · have hm1 : p % len < len := Nat.mod_lt _ hl0
    have hm2 : (p * 7 + 3) % len < len := Nat.mod_lt _ hl0
    obtain ⟨x, hx, x1, x2⟩ := HC.out (p % len) hm1
    obtain ⟨y, hy, y1, y2⟩ := HC.out ((p * 7 + 3) % len) hm2
    have i1 : 0 ≤ (p : Int) % (len : Int) := Int.emod_nonneg _ (by omega)
    have i2 : (p : Int) % (len : Int) < (len : Int) := Int.emod_lt_of_pos _ (by omega)
    have i3 : 0 ≤ ((p : Int) * 7 + 3) % (len : Int) := Int.emod_nonneg _ (by omega)
    have i4 : ((p : Int) * 7 + 3) % (len : Int) < (len : Int) := Int.emod_lt_of_pos _ (by omega)
    have t1 : ((p : Int) % (len : Int)).toNat = p % len := by omega
    have t2 : (((p : Int) * 7 + 3) % (len : Int)).toNat = (p * 7 + 3) % len := by
      have : ((p : Int) * 7 + 3) % (len : Int) = (((p * 7 + 3) % len : Nat) : Int) := by simp
      rw [this]; rfl
    have d1 : 0 ≤ (p : Int) / (len : Int) := Int.ediv_nonneg (by omega) (by omega)
    have d2 : (p : Int) / (len : Int) ≤ 1000000 := Int.le_trans (Int.ediv_le_self _ (by omega)) (by omega)
    clear hm1 hm2
    go_enter Try.func55, Try.ntmps55
    go_wp2
    go_quiet (fail)
    go_wp2
    obtain ⟨q0, _⟩ := xor_small (x * 131 + y * 1117 + (p : Int) * 29 + (p : Int) / (len : Int) * 53) ((x * 131 + y * 1117 + (p : Int) * 29 + (p : Int) / (len : Int) * 53) / 64) (by omega) (by omega) (by omega) (by omega)
    generalize bits BinOp.xor IntKind.i64 (x * 131 + y * 1117 + (p : Int) * 29 + (p : Int) / (len : Int) * 53) ((x * 131 + y * 1117 + (p : Int) * 29 + (p : Int) / (len : Int) * 53) / 64) = B at q0 ⊢
    go_ret
    refine ⟨_, rfl, ?_, fun _ => ?_, fun h => by omega, HS.out.drewN _, grownBy_drewN HG.out _⟩
    · first | exact Int.tmod_nonneg _ q0 | exact Int.emod_nonneg _ (by omega)
    · first | exact Int.tmod_lt_of_pos _ (by omega) | exact Int.emod_lt_of_pos _ (by omega)
/-- A bool is drawn. -/
def RetOdd (D : Nat) (w : World) (g p : Nat) (e : Ending) (w' : World) : Prop :=
  ∃ b : Bool, e = .returned (.bool b) ∧ (∃ p', p' ≤ p + 1 ∧ Rd D w' g p') ∧ w.grownBy w' (some g)
theorem c_odd (g p : Nat) (n : Int) (w : World) (h : Rd D w g p) (hp : p ≤ 1000000) (n1 : -1000000 ≤ n) (n2 : n ≤ 1000000) :
    Calls Try.prog 91 #[.pointer (some ⟨g, 0, none⟩), .int .i64 n] w (RetOdd D w g p) := by
  have HR := Lib.hid h
  clear h
  by_cases hn : 0 < n
  · go_enter Try.func91, Try.ntmps91
    go_wp2_with fail
    refine (c_pick g p n _ HR.out hp (by omega) (by omega)).mono ?_; rintro e w' ⟨x, rfl, x0, x1, x2, hr, hg⟩
    have HR' := Lib.hid hr
    have HG := Lib.hid hg
    clear hr hg x1 x2
    go_wp2_with fail
    all_goals
      go_ret
      exact ⟨_, rfl, ⟨p + 1, Nat.le_refl _, HR'.out⟩, HG.out⟩
  · go_enter Try.func91, Try.ntmps91
    go_wp2_with fail
    go_ret
    exact ⟨_, rfl, ⟨p, by omega, HR.out⟩, grownBy_rfl _ _⟩
/-- A new reader over bytes that came in. -/
def RetRd (D : Nat) (w : World) (e : Ending) (w' : World) : Prop := ∃ g, e = .returned (.pointer (some ⟨g, 0, none⟩)) ∧ w.heap.size ≤ g ∧ Rd D w' g 0 ∧ Below w.heap.size w w'
theorem IsRow.bytes {w : World} {a : Option Addr} {len cap : Nat} {zs : List Int} (h : IsRow .u8 w a len cap zs) : len = 0 ∨ ∃ b off, a = some ⟨b, off, none⟩ ∧ b < w.heap.size ∧ ∀ i, i < len → ∃ x : Int, w.cell? ⟨b, off + i, none⟩ = some (.int .u8 x) ∧ 0 ≤ x ∧ x ≤ 255 := by
  rcases h with ⟨rfl, rfl, rfl, rfl⟩ | ⟨⟨b, off, spot⟩, rfl, hl, hm, hz, hc, hw⟩
  · exact .inl rfl
  · by_cases h0 : len = 0
    · exact .inl h0
    · have h1 := hc 0 (by omega)
      have hs : spot = none := by simpa [Addr.add] using World.cell?_spot h1
      subst hs
      refine .inr ⟨b, off, rfl, World.block_lt_of_cell? w _ h1, fun i hi => ?_⟩
      have h2 := hc i (by omega)
      have ea : (⟨b, off, none⟩ : Addr).add i = ⟨b, off + i, none⟩ := by
        unfold Addr.add
        split
        · rename_i hi0; subst hi0; rfl
        · rfl
      rw [ea] at h2
      have hmem : zs.getD i 0 ∈ zs := by
        rw [List.getD_eq_getElem?_getD, List.getElem?_eq_getElem (by omega)]; exact List.getElem_mem _
      have hwf := hw _ hmem
      simp [Lit.wf, IntKind.min, IntKind.max, IntKind.signed, IntKind.bits] at hwf
      exact ⟨_, h2, by simpa [List.getD_eq_getElem?_getD] using hwf.1, by simpa [List.getD_eq_getElem?_getD] using hwf.2⟩
theorem c_open (a : Option Addr) (len cap : Nat) (w : World) (hcl : len ≤ cap) (hcap : cap ≤ maxLen) (hD : D ≤ w.heap.size)
    (h : len = 0 ∨ ∃ b off, a = some ⟨b, off, none⟩ ∧ b < D ∧ ∀ i, i < len → ∃ x : Int, w.cell? ⟨b, off + i, none⟩ = some (.int .u8 x) ∧ 0 ≤ x ∧ x ≤ 255) :
    Calls Try.prog 53 #[.slice a len cap] w (RetRd D w) := by
  unfold maxLen at hcap
  have HH := Lib.hid h
  clear h
  by_cases hb : 2000 < len
  · have hb' : (2000 : Int) < (len : Int) := by omega
    rcases HH.out with h0 | ⟨b, off, rfl, hlt, hc⟩
    · omega
    go_enter Try.func53, Try.ntmps53
    go_wp2
    go_ret
    refine ⟨w.heap.size, rfl, Nat.le_refl _, ⟨hD, _, _, _, heap_alloc_new w _, Nat.le_refl _, .inr ⟨b, off, rfl, hlt, by simp; omega, fun i hi => ?_⟩⟩, by go_grown⟩
    obtain ⟨x, hx, hx2⟩ := hc i (by omega)
    exact ⟨x, keep hx _, hx2⟩
  · have hb' : (len : Int) ≤ 2000 := by omega
    go_enter Try.func53, Try.ntmps53
    go_wp2
    go_ret
    refine ⟨w.heap.size, rfl, Nat.le_refl _, ⟨hD, _, _, _, heap_alloc_new w _, by omega, HH.out.imp id ?_⟩, by go_grown⟩
    rintro ⟨b, off, rfl, hlt, hc⟩
    exact ⟨b, off, rfl, hlt, by simp; omega, fun i hi => by
      obtain ⟨x, hx, hx2⟩ := hc i hi
      exact ⟨x, keep hx _, hx2⟩⟩
end Go.Proofs.Ytdkdfehlmphikaa
/- A small checker for the drawn statements of the verifier's draws: each slot gets a type (a range of a number, a list of ranges, a pointer), and a region that the checker accepts leaves values of these types, in whatever order its operations come. -/
namespace Go.Proofs.Ytdkdfehlmphikaa
open Go.RowKit
variable {D B : Nat}
/-- What a slot of a drawn statement holds. -/
inductive Ty where
  | int (lo hi : Int)
  | bool
  | sl (xs : List (Int × Int))
  | pt (lo hi : Int)
  | agg (xs : List (Int × Int))
  | sb (e : TypeId) (xs : List (Int × Int))
  | nb (e : TypeId) (xs : List (Int × Int))
  | rd
  | any
  deriving DecidableEq
/-- The numbers lie in their ranges. -/
def Bds : List (Int × Int) → List Int → Prop
  | [], [] => True
  | p :: ps, x :: xs => p.1 ≤ x ∧ x ≤ p.2 ∧ Bds ps xs
  | _, _ => False
theorem Bds.len : ∀ {ps : List (Int × Int)} {xs : List Int}, Bds ps xs → xs.length = ps.length
  | [], [], _ => rfl
  | _ :: _, _ :: _, h => by simp [Bds.len h.2.2]
  | [], _ :: _, h => by cases h
  | _ :: _, [], h => by cases h
theorem Bds.get : ∀ {ps : List (Int × Int)} {xs : List Int} {j : Nat}, Bds ps xs → j < ps.length → ∃ x, xs[j]? = some x ∧ (ps.getD j (0, 0)).1 ≤ x ∧ x ≤ (ps.getD j (0, 0)).2
  | _ :: _, x :: _, 0, h, _ => ⟨x, rfl, h.1, h.2.1⟩
  | _ :: _, _ :: _, j + 1, h, hj => by
    obtain ⟨x, h1, h2⟩ := Bds.get (j := j) h.2.2 (by simpa using hj)
    exact ⟨x, by simpa using h1, by simpa using h2⟩
  | [], [], _, _, hj => by simp at hj
  | [], _ :: _, _, h, _ => by cases h
  | _ :: _, [], _, h, _ => by cases h
theorem getD_mem {ps : List (Int × Int)} {j : Nat} (hj : j < ps.length) : ps.getD j (0, 0) ∈ ps := by
  rw [List.getD_eq_getElem?_getD, List.getElem?_eq_getElem hj]; exact List.getElem_mem _
def ints (xs : List Int) : Array Value := (xs.map (Value.int .i64)).toArray
/-- The value fits; its memory is not the reader's. -/
def Ty.Has (D B g : Nat) : Ty → Value → World → Prop
  | .int lo hi, v, _ => ∃ x, v = .int .i64 x ∧ lo ≤ x ∧ x ≤ hi
  | .bool, v, _ => ∃ b, v = .bool b
  | .sl ps, v, w => ∃ b xs, v = .slice (some ⟨b, 0, none⟩) ps.length ps.length ∧ D ≤ b ∧ b ≠ g ∧ w.heap[b]? = some (.cells (ints xs) 3 (0, 0)) ∧ Bds ps xs
  | .pt lo hi, v, w => ∃ b j x, v = .pointer (some ⟨b, j, none⟩) ∧ D ≤ b ∧ b ≠ g ∧ b < w.heap.size ∧ w.cell? ⟨b, j, none⟩ = some (.int .i64 x) ∧ lo ≤ x ∧ x ≤ hi
  | .agg ps, v, _ => ∃ xs, v = .agg (ints xs) ∧ Bds ps xs
  | .sb e ps, v, w => ∃ b xs, v = .pointer (some ⟨b, 0, none⟩) ∧ D ≤ b ∧ b ≠ g ∧ w.heap[b]? = some (.cells (ints xs) e (0, 0)) ∧ Bds ps xs
  | .nb e ps, v, w => ∃ b xs, v = .pointer (some ⟨b, 0, none⟩) ∧ B ≤ b ∧ D ≤ b ∧ b ≠ g ∧ w.heap[b]? = some (.cells (ints xs) e (0, 0)) ∧ Bds ps xs
  | .rd, v, _ => v = .pointer (some ⟨g, 0, none⟩)
  | .any, _, _ => True
theorem lt_of_heap {w : World} {b : Nat} {o : Obj} (h : w.heap[b]? = some o) : b < w.heap.size := by
  rcases Nat.lt_or_ge b w.heap.size with h' | h'
  · exact h'
  · rw [Array.getElem?_eq_none h'] at h; cases h
theorem Ty.stable {g : Nat} (t : Ty) (v : Value) (w w' : World) (h : t.Has D B g v w) (hg : w.grownBy w' (some g)) : t.Has D B g v w' := by
  cases t with
  | int lo hi => exact h
  | bool => exact h
  | agg ps => exact h
  | rd => exact h
  | any => trivial
  | sl ps =>
    obtain ⟨b, xs, h1, h0, h2, h3, h4⟩ := h
    exact ⟨b, xs, h1, h0, h2, (hg.block b (lt_of_heap h3) (fun e => h2 (by simpa using e))).trans h3, h4⟩
  | pt lo hi =>
    obtain ⟨b, j, x, h1, h0, h2, h3, h4, h5⟩ := h
    exact ⟨b, j, x, h1, h0, h2, Nat.lt_of_lt_of_le h3 hg.size, (World.cell?_of_block (hg.block b h3 (fun e => h2 (by simpa using e)))).trans h4, h5⟩
  | sb e ps =>
    obtain ⟨b, cs, h1, h0, h2, h3, h4⟩ := h
    exact ⟨b, cs, h1, h0, h2, (hg.block b (lt_of_heap h3) (fun e => h2 (by simpa using e))).trans h3, h4⟩
  | nb e ps =>
    obtain ⟨b, cs, h1, hB, h0, h2, h3, h4⟩ := h
    exact ⟨b, cs, h1, hB, h0, h2, (hg.block b (lt_of_heap h3) (fun e => h2 (by simpa using e))).trans h3, h4⟩
/-- The slots' types, as a list of pairs. -/
def tyAt (l : List (Tmp × Ty)) (d : Tmp) : Ty := ((l.find? fun p => p.1 == d).map (·.2)).getD .any
def opndTy (l : List (Tmp × Ty)) : Operand → Ty
  | .tmp d => tyAt l d
  | .const (.int .i64 n) => .int n n
  | _ => .any
/-- The kinds of operation that the checker knows. -/
inductive Kd where
  | mv (x : Operand)
  | pk (x y : Operand)
  | mul (x y : Operand)
  | add (x y : Operand)
  | sub (x y : Operand)
  | quo (x y : Operand)
  | eql (x y : Operand)
  | bs (n : Nat) (ps : List (Nat × Operand))
  | ix (x y : Operand)
  | ld (x : Operand)
  | ldS (x : Operand)
  | fa (x : Operand) (i : Nat)
  | bd (ps : List (Nat × Operand))
  | al
  | no
def kindOf (S : TypeId) (o : Oper) : Kd :=
  match o.op with
  | .move x => .mv x
  | .assign x => .mv x
  | .call c => match c.callee, c.args.toList with
    | .value (.func f), [x, y] => if f = 55 then .pk x y else .no
    | _, _ => .no
  | .binOp b t x y _ => if t = 3 then (match b with | .mul => .mul x y | .add => .add x y | .sub => .sub x y | .quo => .quo x y | .eql => .eql x y | _ => .no) else .no
  | .buildSlice t n ps => if t = 27 then .bs n ps.toList else .no
  | .indexAddr t x y => if t = 27 then .ix x y else .no
  | .load t x => if t = 3 then .ld x else if t = S then .ldS x else .no
  | .fieldAddr t x i => if t = S then .fa x i else .no
  | .build t ps => if t = S then .bd ps.toList else .no
  | .alloc t => if t = S then .al else .no
  | _ => .no
def big : Int := 1000000000
def rng (lo hi : Int) : Option Ty := if -big ≤ lo ∧ hi ≤ big then some (.int lo hi) else none
def asInts (l : List (Tmp × Ty)) : List (Nat × Operand) → Nat → Option (List (Int × Int))
  | [], _ => some []
  | (i, x) :: r, k => if i = k then (match opndTy l x, asInts l r (k + 1) with | .int lo hi, some q => some ((lo, hi) :: q) | _, _ => none) else none
def minOf (ps : List (Int × Int)) : Int := ps.foldr (fun p m => min p.1 m) big
def maxOf (ps : List (Int × Int)) : Int := ps.foldr (fun p m => max p.2 m) (-big)
theorem minOf_le {ps : List (Int × Int)} {p : Int × Int} (h : p ∈ ps) : minOf ps ≤ p.1 := by
  induction ps with
  | nil => cases h
  | cons q r ih =>
    simp only [minOf, List.foldr_cons]
    rcases List.mem_cons.1 h with rfl | h
    · omega
    · have := ih h; unfold minOf at this; omega
theorem le_maxOf {ps : List (Int × Int)} {p : Int × Int} (h : p ∈ ps) : p.2 ≤ maxOf ps := by
  induction ps with
  | nil => cases h
  | cons q r ih =>
    simp only [maxOf, List.foldr_cons]
    rcases List.mem_cons.1 h with rfl | h
    · omega
    · have := ih h; unfold maxOf at this; omega
/-- The type that an operation gives (two fields in the struct S). -/
def tyK (S : TypeId) (l : List (Tmp × Ty)) : Kd → Option Ty
  | .mv x => some (opndTy l x)
  | .pk x y => if opndTy l x = .rd then (match opndTy l y with | .int lo hi => if 1 ≤ lo ∧ hi ≤ big then some (.int 0 (hi - 1)) else none | _ => none) else none
  | .mul x y => match opndTy l x, opndTy l y with | .int a b, .int c d => if 0 ≤ a ∧ c = d ∧ 0 ≤ c then rng (a * c) (b * c) else none | _, _ => none
  | .add x y => match opndTy l x, opndTy l y with | .int a b, .int c d => rng (a + c) (b + d) | _, _ => none
  | .sub x y => match opndTy l x, opndTy l y with | .int a b, .int c d => rng (a - d) (b - c) | _, _ => none
  | .quo x y => match opndTy l x, opndTy l y with | .int a b, .int c d => if 0 ≤ a ∧ c = d ∧ 1 ≤ c then rng (a / c) (b / c) else none | _, _ => none
  | .eql x y => match opndTy l x, opndTy l y with | .int _ _, .int _ _ => some .bool | _, _ => none
  | .bs n ps => match asInts l ps 0 with | some q => if q.length = n ∧ 1 ≤ n ∧ n ≤ 8 then some (.sl q) else none | none => none
  | .ix x y => match opndTy l x, opndTy l y with | .sl q, .int lo hi => if 0 ≤ lo ∧ hi < q.length then some (.pt (minOf q) (maxOf q)) else none | _, _ => none
  | .ld x => match opndTy l x with | .pt lo hi => some (.int lo hi) | _ => none
  | .ldS x => match opndTy l x with | .sb e [p, q] => if e = S then some (.agg [p, q]) else none | _ => none
  | .fa x i => match opndTy l x with | .sb e [p, q] => if e = S ∧ i = 0 then some (.pt p.1 p.2) else if e = S ∧ i = 1 then some (.pt q.1 q.2) else none | _ => none
  | .bd ps => match asInts l ps 0 with | some [p, q] => some (.agg [p, q]) | _ => none
  | .al => some (.nb S [(0, 0), (0, 0)])
  | .no => none
end Go.Proofs.Ytdkdfehlmphikaa
/- The checker is right: an operation of a kind that it knows leaves a value of the type that it gives. -/
namespace Go.Proofs.Ytdkdfehlmphikaa
open Go.RowKit
theorem run_bs1 (o : Oper) (ρ : Operand → Value) (w : World) (x0 : Operand) (m0 : Int) (ho : o.op = .buildSlice 27 1 #[(0, x0)]) (h0 : ρ x0 = .int .i64 m0) :
    (execOp ρ o).run Try.prog w = .ok (.value (.slice (some ⟨w.heap.size, 0, none⟩) 1 1)) (w.alloc (.cells (ints [m0]) 3)) := by
  simp [execOp, ho, h0, ints, go_sem]
theorem run_bs2 (o : Oper) (ρ : Operand → Value) (w : World) (x0 x1 : Operand) (m0 m1 : Int) (ho : o.op = .buildSlice 27 2 #[(0, x0), (1, x1)]) (h0 : ρ x0 = .int .i64 m0) (h1 : ρ x1 = .int .i64 m1) :
    (execOp ρ o).run Try.prog w = .ok (.value (.slice (some ⟨w.heap.size, 0, none⟩) 2 2)) (w.alloc (.cells (ints [m0, m1]) 3)) := by
  simp [execOp, ho, h0, h1, ints, go_sem]
theorem run_bs3 (o : Oper) (ρ : Operand → Value) (w : World) (x0 x1 x2 : Operand) (m0 m1 m2 : Int) (ho : o.op = .buildSlice 27 3 #[(0, x0), (1, x1), (2, x2)]) (h0 : ρ x0 = .int .i64 m0) (h1 : ρ x1 = .int .i64 m1) (h2 : ρ x2 = .int .i64 m2) :
    (execOp ρ o).run Try.prog w = .ok (.value (.slice (some ⟨w.heap.size, 0, none⟩) 3 3)) (w.alloc (.cells (ints [m0, m1, m2]) 3)) := by
  simp [execOp, ho, h0, h1, h2, ints, go_sem]
theorem run_bs4 (o : Oper) (ρ : Operand → Value) (w : World) (x0 x1 x2 x3 : Operand) (m0 m1 m2 m3 : Int) (ho : o.op = .buildSlice 27 4 #[(0, x0), (1, x1), (2, x2), (3, x3)]) (h0 : ρ x0 = .int .i64 m0) (h1 : ρ x1 = .int .i64 m1) (h2 : ρ x2 = .int .i64 m2) (h3 : ρ x3 = .int .i64 m3) :
    (execOp ρ o).run Try.prog w = .ok (.value (.slice (some ⟨w.heap.size, 0, none⟩) 4 4)) (w.alloc (.cells (ints [m0, m1, m2, m3]) 3)) := by
  simp [execOp, ho, h0, h1, h2, h3, ints, go_sem]
theorem run_bs5 (o : Oper) (ρ : Operand → Value) (w : World) (x0 x1 x2 x3 x4 : Operand) (m0 m1 m2 m3 m4 : Int) (ho : o.op = .buildSlice 27 5 #[(0, x0), (1, x1), (2, x2), (3, x3), (4, x4)]) (h0 : ρ x0 = .int .i64 m0) (h1 : ρ x1 = .int .i64 m1) (h2 : ρ x2 = .int .i64 m2) (h3 : ρ x3 = .int .i64 m3) (h4 : ρ x4 = .int .i64 m4) :
    (execOp ρ o).run Try.prog w = .ok (.value (.slice (some ⟨w.heap.size, 0, none⟩) 5 5)) (w.alloc (.cells (ints [m0, m1, m2, m3, m4]) 3)) := by
  simp [execOp, ho, h0, h1, h2, h3, h4, ints, go_sem]
theorem run_bs6 (o : Oper) (ρ : Operand → Value) (w : World) (x0 x1 x2 x3 x4 x5 : Operand) (m0 m1 m2 m3 m4 m5 : Int) (ho : o.op = .buildSlice 27 6 #[(0, x0), (1, x1), (2, x2), (3, x3), (4, x4), (5, x5)]) (h0 : ρ x0 = .int .i64 m0) (h1 : ρ x1 = .int .i64 m1) (h2 : ρ x2 = .int .i64 m2) (h3 : ρ x3 = .int .i64 m3) (h4 : ρ x4 = .int .i64 m4) (h5 : ρ x5 = .int .i64 m5) :
    (execOp ρ o).run Try.prog w = .ok (.value (.slice (some ⟨w.heap.size, 0, none⟩) 6 6)) (w.alloc (.cells (ints [m0, m1, m2, m3, m4, m5]) 3)) := by
  simp [execOp, ho, h0, h1, h2, h3, h4, h5, ints, go_sem]
theorem run_bs7 (o : Oper) (ρ : Operand → Value) (w : World) (x0 x1 x2 x3 x4 x5 x6 : Operand) (m0 m1 m2 m3 m4 m5 m6 : Int) (ho : o.op = .buildSlice 27 7 #[(0, x0), (1, x1), (2, x2), (3, x3), (4, x4), (5, x5), (6, x6)]) (h0 : ρ x0 = .int .i64 m0) (h1 : ρ x1 = .int .i64 m1) (h2 : ρ x2 = .int .i64 m2) (h3 : ρ x3 = .int .i64 m3) (h4 : ρ x4 = .int .i64 m4) (h5 : ρ x5 = .int .i64 m5) (h6 : ρ x6 = .int .i64 m6) :
    (execOp ρ o).run Try.prog w = .ok (.value (.slice (some ⟨w.heap.size, 0, none⟩) 7 7)) (w.alloc (.cells (ints [m0, m1, m2, m3, m4, m5, m6]) 3)) := by
  simp [execOp, ho, h0, h1, h2, h3, h4, h5, h6, ints, go_sem]
theorem run_bs8 (o : Oper) (ρ : Operand → Value) (w : World) (x0 x1 x2 x3 x4 x5 x6 x7 : Operand) (m0 m1 m2 m3 m4 m5 m6 m7 : Int) (ho : o.op = .buildSlice 27 8 #[(0, x0), (1, x1), (2, x2), (3, x3), (4, x4), (5, x5), (6, x6), (7, x7)]) (h0 : ρ x0 = .int .i64 m0) (h1 : ρ x1 = .int .i64 m1) (h2 : ρ x2 = .int .i64 m2) (h3 : ρ x3 = .int .i64 m3) (h4 : ρ x4 = .int .i64 m4) (h5 : ρ x5 = .int .i64 m5) (h6 : ρ x6 = .int .i64 m6) (h7 : ρ x7 = .int .i64 m7) :
    (execOp ρ o).run Try.prog w = .ok (.value (.slice (some ⟨w.heap.size, 0, none⟩) 8 8)) (w.alloc (.cells (ints [m0, m1, m2, m3, m4, m5, m6, m7]) 3)) := by
  simp [execOp, ho, h0, h1, h2, h3, h4, h5, h6, h7, ints, go_sem]
theorem run_bin (o : Oper) (ρ : Operand → Value) (w : World) (x y : Operand) (m n : Int) (u : TypeId) (hx : ρ x = .int .i64 m) (hy : ρ y = .int .i64 n) :
    (o.op = .binOp .mul 3 x y u → (execOp ρ o).run Try.prog w = .ok (.value (.int .i64 (IntKind.i64.wrap (m * n)))) w) ∧
    (o.op = .binOp .add 3 x y u → (execOp ρ o).run Try.prog w = .ok (.value (.int .i64 (IntKind.i64.wrap (m + n)))) w) ∧
    (o.op = .binOp .sub 3 x y u → (execOp ρ o).run Try.prog w = .ok (.value (.int .i64 (IntKind.i64.wrap (m - n)))) w) ∧
    (o.op = .binOp .eql 3 x y u → (execOp ρ o).run Try.prog w = .ok (.value (.bool (m == n))) w) ∧
    (o.op = .binOp .quo 3 x y u → n ≠ 0 → (execOp ρ o).run Try.prog w = .ok (.value (.int .i64 (IntKind.i64.wrap (m.tdiv n)))) w) := by
  refine ⟨fun ho => ?_, fun ho => ?_, fun ho => ?_, fun ho => ?_, fun ho hn => ?_⟩
  · simp [execOp, ho, hx, hy, go_sem]
  · simp [execOp, ho, hx, hy, go_sem]
  · simp [execOp, ho, hx, hy, go_sem]
  · simp [execOp, ho, hx, hy, go_sem]
  · simp [execOp, ho, hx, hy, hn, go_sem]
theorem run_pk (o : Oper) (ρ : Operand → Value) (w : World) (c : Call) (x y : Operand) (v u : Value) (ho : o.op = .call c) (hc : c.callee = .value (.func 55)) (ha : c.args.toList = [x, y])
    (hf : ρ (.func 55) = .func (.func 55) #[] #[]) (hx : ρ x = v) (hy : ρ y = u) : (execOp ρ o).run Try.prog w = .ok (.enter 55 #[v, u]) w := by
  obtain ⟨callee, args, ats⟩ := c
  obtain ⟨al⟩ := args
  simp only at hc ha
  subst hc ha
  simp [execOp, ho, hf, hx, hy, go_sem]
theorem run_ix (o : Oper) (ρ : Operand → Value) (w : World) (x y : Operand) (b len j : Nat) (hj : j < len) (ho : o.op = .indexAddr 27 x y)
    (hx : ρ x = .slice (some ⟨b, 0, none⟩) len len) (hy : ρ y = .int .i64 j) : (execOp ρ o).run Try.prog w = .ok (.value (.pointer (some ⟨b, j, none⟩))) w := by
  simp [execOp, ho, hx, hy, hj, go_sem]
theorem run_ld (o : Oper) (ρ : Operand → Value) (w : World) (x : Operand) (b j : Nat) (n : Int) (ho : o.op = .load 3 x)
    (hx : ρ x = .pointer (some ⟨b, j, none⟩)) (hc : w.cell? ⟨b, j, none⟩ = some (.int .i64 n)) : (execOp ρ o).run Try.prog w = .ok (.value (.int .i64 n)) w := by
  simp [execOp, ho, hx, hc, go_sem]
/-- A struct of two ints. -/
structure SOk (S : TypeId) : Prop where
  build : ∀ (o : Oper) (ρ : Operand → Value) (w : World) (x y : Operand) (m n : Int), o.op = .build S #[(0, x), (1, y)] → ρ x = .int .i64 m → ρ y = .int .i64 n → (execOp ρ o).run Try.prog w = .ok (.value (.agg (ints [m, n]))) w
  alloc : ∀ (o : Oper) (ρ : Operand → Value) (w : World), o.op = .alloc S → (execOp ρ o).run Try.prog w = .ok (.value (.pointer (some ⟨w.heap.size, 0, none⟩))) (w.alloc (.cells (ints [0, 0]) S))
  load : ∀ (o : Oper) (ρ : Operand → Value) (w : World) (x : Operand) (b : Nat) (m n : Int), o.op = .load S x → ρ x = .pointer (some ⟨b, 0, none⟩) → w.cell? ⟨b, 0, none⟩ = some (.int .i64 m) → w.cell? ⟨b, 1, none⟩ = some (.int .i64 n) → (execOp ρ o).run Try.prog w = .ok (.value (.agg (ints [m, n]))) w
  field : ∀ (o : Oper) (ρ : Operand → Value) (w : World) (x : Operand) (b i : Nat), i < 2 → o.op = .fieldAddr S x i → ρ x = .pointer (some ⟨b, 0, none⟩) → (execOp ρ o).run Try.prog w = .ok (.value (.pointer (some ⟨b, i, none⟩))) w
end Go.Proofs.Ytdkdfehlmphikaa
/- The checker is right: an operation of a kind that it knows leaves a value of the type that it gives. -/
namespace Go.Proofs.Ytdkdfehlmphikaa
open Go.RowKit
def opndsK : Kd → List Operand
  | .mv x => [x]
  | .pk x y => [x, y]
  | .mul x y => [x, y]
  | .add x y => [x, y]
  | .sub x y => [x, y]
  | .quo x y => [x, y]
  | .eql x y => [x, y]
  | .bs _ ps => ps.map (·.2)
  | .ix x y => [x, y]
  | .ld x => [x]
  | .ldS x => [x]
  | .fa x _ => [x]
  | .bd ps => ps.map (·.2)
  | .al  => []
  | .no => []
def usesS : Kd → Bool
  | .ldS _ => true
  | .fa _ _ => true
  | .bd _ => true
  | .al => true
  | _ => false
theorem kind_mv {S : TypeId} {o : Oper} {x : Operand} (h : kindOf S o = .mv x) : o.op = .move x ∨ o.op = .assign x := by
  revert h
  unfold kindOf
  split
  all_goals (try split)
  all_goals (try split)
  all_goals (try split)
  all_goals (intro h; first | cases h | skip)
  all_goals (first | exact .inl ‹_› | exact .inr ‹_› | exact ⟨_, ‹_›⟩ | exact ⟨_, ‹_›, rfl⟩ | exact ⟨_, ‹_›, ‹_›, ‹_›⟩ | (simp_all; done) | (subst_vars; first | assumption | exact ⟨_, ‹_›⟩ | exact ⟨_, ‹_›, rfl⟩ | exact ⟨_, ‹_›, ‹_›, ‹_›⟩))
theorem kind_pk {S : TypeId} {o : Oper} {x : Operand} {y : Operand} (h : kindOf S o = .pk x y) : ∃ c, o.op = .call c ∧ c.callee = .value (.func 55) ∧ c.args.toList = [x, y] := by
  revert h
  unfold kindOf
  split
  all_goals (try split)
  all_goals (try split)
  all_goals (try split)
  all_goals (intro h; first | cases h | skip)
  all_goals (first | exact .inl ‹_› | exact .inr ‹_› | exact ⟨_, ‹_›⟩ | exact ⟨_, ‹_›, rfl⟩ | exact ⟨_, ‹_›, ‹_›, ‹_›⟩ | (simp_all; done) | (subst_vars; first | assumption | exact ⟨_, ‹_›⟩ | exact ⟨_, ‹_›, rfl⟩ | exact ⟨_, ‹_›, ‹_›, ‹_›⟩))
theorem kind_mul {S : TypeId} {o : Oper} {x : Operand} {y : Operand} (h : kindOf S o = .mul x y) : ∃ u, o.op = .binOp .mul 3 x y u := by
  revert h
  unfold kindOf
  split
  all_goals (try split)
  all_goals (try split)
  all_goals (try split)
  all_goals (intro h; first | cases h | skip)
  all_goals (first | exact .inl ‹_› | exact .inr ‹_› | exact ⟨_, ‹_›⟩ | exact ⟨_, ‹_›, rfl⟩ | exact ⟨_, ‹_›, ‹_›, ‹_›⟩ | (simp_all; done) | (subst_vars; first | assumption | exact ⟨_, ‹_›⟩ | exact ⟨_, ‹_›, rfl⟩ | exact ⟨_, ‹_›, ‹_›, ‹_›⟩))
theorem kind_add {S : TypeId} {o : Oper} {x : Operand} {y : Operand} (h : kindOf S o = .add x y) : ∃ u, o.op = .binOp .add 3 x y u := by
  revert h
  unfold kindOf
  split
  all_goals (try split)
  all_goals (try split)
  all_goals (try split)
  all_goals (intro h; first | cases h | skip)
  all_goals (first | exact .inl ‹_› | exact .inr ‹_› | exact ⟨_, ‹_›⟩ | exact ⟨_, ‹_›, rfl⟩ | exact ⟨_, ‹_›, ‹_›, ‹_›⟩ | (simp_all; done) | (subst_vars; first | assumption | exact ⟨_, ‹_›⟩ | exact ⟨_, ‹_›, rfl⟩ | exact ⟨_, ‹_›, ‹_›, ‹_›⟩))
theorem kind_sub {S : TypeId} {o : Oper} {x : Operand} {y : Operand} (h : kindOf S o = .sub x y) : ∃ u, o.op = .binOp .sub 3 x y u := by
  revert h
  unfold kindOf
  split
  all_goals (try split)
  all_goals (try split)
  all_goals (try split)
  all_goals (intro h; first | cases h | skip)
  all_goals (first | exact .inl ‹_› | exact .inr ‹_› | exact ⟨_, ‹_›⟩ | exact ⟨_, ‹_›, rfl⟩ | exact ⟨_, ‹_›, ‹_›, ‹_›⟩ | (simp_all; done) | (subst_vars; first | assumption | exact ⟨_, ‹_›⟩ | exact ⟨_, ‹_›, rfl⟩ | exact ⟨_, ‹_›, ‹_›, ‹_›⟩))
theorem kind_quo {S : TypeId} {o : Oper} {x : Operand} {y : Operand} (h : kindOf S o = .quo x y) : ∃ u, o.op = .binOp .quo 3 x y u := by
  revert h
  unfold kindOf
  split
  all_goals (try split)
  all_goals (try split)
  all_goals (try split)
  all_goals (intro h; first | cases h | skip)
  all_goals (first | exact .inl ‹_› | exact .inr ‹_› | exact ⟨_, ‹_›⟩ | exact ⟨_, ‹_›, rfl⟩ | exact ⟨_, ‹_›, ‹_›, ‹_›⟩ | (simp_all; done) | (subst_vars; first | assumption | exact ⟨_, ‹_›⟩ | exact ⟨_, ‹_›, rfl⟩ | exact ⟨_, ‹_›, ‹_›, ‹_›⟩))
theorem kind_eql {S : TypeId} {o : Oper} {x : Operand} {y : Operand} (h : kindOf S o = .eql x y) : ∃ u, o.op = .binOp .eql 3 x y u := by
  revert h
  unfold kindOf
  split
  all_goals (try split)
  all_goals (try split)
  all_goals (try split)
  all_goals (intro h; first | cases h | skip)
  all_goals (first | exact .inl ‹_› | exact .inr ‹_› | exact ⟨_, ‹_›⟩ | exact ⟨_, ‹_›, rfl⟩ | exact ⟨_, ‹_›, ‹_›, ‹_›⟩ | (simp_all; done) | (subst_vars; first | assumption | exact ⟨_, ‹_›⟩ | exact ⟨_, ‹_›, rfl⟩ | exact ⟨_, ‹_›, ‹_›, ‹_›⟩))
theorem kind_bs {S : TypeId} {o : Oper} {n : Nat} {ps : List (Nat × Operand)} (h : kindOf S o = .bs n ps) : ∃ qs, o.op = .buildSlice 27 n qs ∧ qs.toList = ps := by
  revert h
  unfold kindOf
  split
  all_goals (try split)
  all_goals (try split)
  all_goals (try split)
  all_goals (intro h; first | cases h | skip)
  all_goals (first | exact .inl ‹_› | exact .inr ‹_› | exact ⟨_, ‹_›⟩ | exact ⟨_, ‹_›, rfl⟩ | exact ⟨_, ‹_›, ‹_›, ‹_›⟩ | (simp_all; done) | (subst_vars; first | assumption | exact ⟨_, ‹_›⟩ | exact ⟨_, ‹_›, rfl⟩ | exact ⟨_, ‹_›, ‹_›, ‹_›⟩))
theorem kind_ix {S : TypeId} {o : Oper} {x : Operand} {y : Operand} (h : kindOf S o = .ix x y) : o.op = .indexAddr 27 x y := by
  revert h
  unfold kindOf
  split
  all_goals (try split)
  all_goals (try split)
  all_goals (try split)
  all_goals (intro h; first | cases h | skip)
  all_goals (first | exact .inl ‹_› | exact .inr ‹_› | exact ⟨_, ‹_›⟩ | exact ⟨_, ‹_›, rfl⟩ | exact ⟨_, ‹_›, ‹_›, ‹_›⟩ | (simp_all; done) | (subst_vars; first | assumption | exact ⟨_, ‹_›⟩ | exact ⟨_, ‹_›, rfl⟩ | exact ⟨_, ‹_›, ‹_›, ‹_›⟩))
theorem kind_ld {S : TypeId} {o : Oper} {x : Operand} (h : kindOf S o = .ld x) : o.op = .load 3 x := by
  revert h
  unfold kindOf
  split
  all_goals (try split)
  all_goals (try split)
  all_goals (try split)
  all_goals (intro h; first | cases h | skip)
  all_goals (first | exact .inl ‹_› | exact .inr ‹_› | exact ⟨_, ‹_›⟩ | exact ⟨_, ‹_›, rfl⟩ | exact ⟨_, ‹_›, ‹_›, ‹_›⟩ | (simp_all; done) | (subst_vars; first | assumption | exact ⟨_, ‹_›⟩ | exact ⟨_, ‹_›, rfl⟩ | exact ⟨_, ‹_›, ‹_›, ‹_›⟩))
theorem kind_ldS {S : TypeId} {o : Oper} {x : Operand} (h : kindOf S o = .ldS x) : o.op = .load S x := by
  revert h
  unfold kindOf
  split
  all_goals (try split)
  all_goals (try split)
  all_goals (try split)
  all_goals (intro h; first | cases h | skip)
  all_goals (first | exact .inl ‹_› | exact .inr ‹_› | exact ⟨_, ‹_›⟩ | exact ⟨_, ‹_›, rfl⟩ | exact ⟨_, ‹_›, ‹_›, ‹_›⟩ | (simp_all; done) | (subst_vars; first | assumption | exact ⟨_, ‹_›⟩ | exact ⟨_, ‹_›, rfl⟩ | exact ⟨_, ‹_›, ‹_›, ‹_›⟩))
theorem kind_fa {S : TypeId} {o : Oper} {x : Operand} {i : Nat} (h : kindOf S o = .fa x i) : o.op = .fieldAddr S x i := by
  revert h
  unfold kindOf
  split
  all_goals (try split)
  all_goals (try split)
  all_goals (try split)
  all_goals (intro h; first | cases h | skip)
  all_goals (first | exact .inl ‹_› | exact .inr ‹_› | exact ⟨_, ‹_›⟩ | exact ⟨_, ‹_›, rfl⟩ | exact ⟨_, ‹_›, ‹_›, ‹_›⟩ | (simp_all; done) | (subst_vars; first | assumption | exact ⟨_, ‹_›⟩ | exact ⟨_, ‹_›, rfl⟩ | exact ⟨_, ‹_›, ‹_›, ‹_›⟩))
theorem kind_bd {S : TypeId} {o : Oper} {ps : List (Nat × Operand)} (h : kindOf S o = .bd ps) : ∃ qs, o.op = .build S qs ∧ qs.toList = ps := by
  revert h
  unfold kindOf
  split
  all_goals (try split)
  all_goals (try split)
  all_goals (try split)
  all_goals (intro h; first | cases h | skip)
  all_goals (first | exact .inl ‹_› | exact .inr ‹_› | exact ⟨_, ‹_›⟩ | exact ⟨_, ‹_›, rfl⟩ | exact ⟨_, ‹_›, ‹_›, ‹_›⟩ | (simp_all; done) | (subst_vars; first | assumption | exact ⟨_, ‹_›⟩ | exact ⟨_, ‹_›, rfl⟩ | exact ⟨_, ‹_›, ‹_›, ‹_›⟩))
theorem kind_al {S : TypeId} {o : Oper}  (h : kindOf S o = .al ) : o.op = .alloc S := by
  revert h
  unfold kindOf
  split
  all_goals (try split)
  all_goals (try split)
  all_goals (try split)
  all_goals (intro h; first | cases h | skip)
  all_goals (first | exact .inl ‹_› | exact .inr ‹_› | exact ⟨_, ‹_›⟩ | exact ⟨_, ‹_›, rfl⟩ | exact ⟨_, ‹_›, ‹_›, ‹_›⟩ | (simp_all; done) | (subst_vars; first | assumption | exact ⟨_, ‹_›⟩ | exact ⟨_, ‹_›, rfl⟩ | exact ⟨_, ‹_›, ‹_›, ‹_›⟩))
end Go.Proofs.Ytdkdfehlmphikaa
/- The checker is right, and a drawn region that it accepts leaves values of the types that it gives. -/
namespace Go.Proofs.Ytdkdfehlmphikaa
open Go.RowKit
variable {D D0 B : Nat}
section
variable {Q : Exit → Act → World → Prop} {S : TypeId} {l : List (Tmp × Ty)} {g p k : Nat} {o : Oper} {t : Ty} {d : Tmp} {a : Act} {w : World}
def Goes (D0 D B : Nat) (t : Ty) (d : Tmp) (g p k : Nat) (a : Act) (w : World) (a' : Act) (w' : World) : Prop := ∃ v, a' = a.put (some d) v ∧ t.Has D B g v w' ∧ w.grownBy w' (some g) ∧ ∃ p', p' ≤ p + (k + 1) ∧ Rd D0 w' g p'
theorem wp_val {v : Value} {w1 : World} (hd : o.dst = some d) (h : (execOp a.eval o).run Try.prog w = .ok (.value v) w1) (hT : t.Has D B g v w1) (hg : w.grownBy w1 (some g)) (hr : ∃ p', p' ≤ p + (k + 1) ∧ Rd D0 w1 g p') :
    Oper.wp Try.prog o a w (Goes D0 D B t d g p k a w) Q := by
  unfold Oper.wp
  rw [h]
  exact ⟨v, by rw [hd], hT, hg, hr⟩
theorem wp_val' {v : Value} (hd : o.dst = some d) (h : (execOp a.eval o).run Try.prog w = .ok (.value v) w) (hT : t.Has D B g v w) (hr : ∃ p', p' ≤ p + k ∧ Rd D0 w g p') :
    Oper.wp Try.prog o a w (Goes D0 D B t d g p k a w) Q :=
  wp_val hd h hT (grownBy_rfl _ _) (let ⟨p', h1, h2⟩ := hr; ⟨p', by omega, h2⟩)
theorem asInts_cons {i : Nat} {x : Operand} {r : List (Nat × Operand)} {j : Nat} {q : List (Int × Int)} (h : asInts l ((i, x) :: r) j = some q) :
    i = j ∧ ∃ lo hi q', opndTy l x = .int lo hi ∧ asInts l r (j + 1) = some q' ∧ q = (lo, hi) :: q' := by
  simp only [asInts] at h
  split at h
  · rename_i hij
    refine ⟨hij, ?_⟩
    split at h
    · rename_i lo hi q' e1 e2
      injection h with h
      exact ⟨lo, hi, q', e1, e2, h.symm⟩
    · cases h
  · cases h
theorem alloc_new (w : World) (xs : List Int) (e : TypeId) : (w.alloc (.cells (ints xs) e)).heap[w.heap.size]? = some (.cells (ints xs) e (0, 0)) := heap_alloc_new w _
theorem kd_sound (hd : o.dst = some d) (hk : tyK S l (kindOf S o) = some t) (hS : usesS (kindOf S o) = true → SOk S) (henv : ∀ x ∈ opndsK (kindOf S o), (opndTy l x).Has D B g (a.eval x) w)
    (hW : ∃ p', p' ≤ p + k ∧ Rd D0 w g p') (hp : p + k ≤ 100000) (hB : B ≤ w.heap.size) (hDg : D ≤ g) : Oper.wp Try.prog o a w (Goes D0 D B t d g p k a w) Q := by
  have hglt : g < w.heap.size := by obtain ⟨p', _, h⟩ := hW; exact h.lt
  generalize hkd : kindOf S o = kd at hk henv hS
  cases kd with
  | no => cases hk
  | mv x =>
    simp only [tyK, Option.some.injEq] at hk
    subst hk
    have hx := henv x (by simp [opndsK])
    refine wp_val' hd (v := a.eval x) ?_ hx hW
    rcases kind_mv hkd with ho | ho <;> simp [execOp, ho, Sem.run_pure]
  | pk x y =>
    simp only [tyK] at hk
    split at hk
    · rename_i hrd
      split at hk
      · rename_i lo hi hy
        split at hk
        · rename_i hb
          obtain ⟨hb1, hb2⟩ := hb
          unfold big at hb2
          injection hk with hk
          subst hk
          have hx := henv x (by simp [opndsK])
          have hy' := henv y (by simp [opndsK])
          rw [hrd] at hx
          rw [hy] at hy'
          obtain ⟨n, hn, n1, n2⟩ := hy'
          obtain ⟨c, ho, hc, ha⟩ := kind_pk hkd
          have hrun := run_pk o a.eval w c x y _ _ ho hc ha rfl hx hn
          unfold Oper.wp
          rw [hrun]
          obtain ⟨p', hp', hr⟩ := hW
          refine (c_pick g p' n w hr (by omega) (by omega) (by omega)).mono ?_
          rintro e w' ⟨z, rfl, z0, z1, z2, hr', hg'⟩
          exact ⟨_, by rw [hd], ⟨z, rfl, z0, by have := z1 (by omega); omega⟩, hg', p' + 1, by omega, hr'⟩
        · cases hk
      · cases hk
    · cases hk
  | mul x y =>
    simp only [tyK] at hk
    split at hk
    · rename_i b1 b2 c1 c2 hx hy
      split at hk
      case isFalse => cases hk
      rename_i hcc
      obtain ⟨h0, h1, h2⟩ := hcc
      subst h1
      have hx' := henv x (by simp [opndsK])
      have hy' := henv y (by simp [opndsK])
      rw [hx] at hx'
      rw [hy] at hy'
      obtain ⟨m, hm, m1, m2⟩ := hx'
      obtain ⟨n, hn, n1, n2⟩ := hy'
      obtain ⟨u, ho⟩ := kind_mul hkd
      unfold rng big at hk
      split at hk
      · rename_i hr
        obtain ⟨r1, r2⟩ := hr
        injection hk with hk
        subst hk
        obtain rfl : n = c1 := by omega
        have q1 : b1 * n ≤ m * n := Int.mul_le_mul_of_nonneg_right m1 h2
        have q2 : m * n ≤ b2 * n := Int.mul_le_mul_of_nonneg_right m2 h2
        refine wp_val' hd ((run_bin o a.eval w x y m n u hm hn).1 ho) ⟨m * n, ?_, q1, q2⟩ hW
        rw [IntWalk.i64_in _ (by omega)]
      · cases hk
    · cases hk
  | add x y =>
    simp only [tyK] at hk
    split at hk
    · rename_i b1 b2 c1 c2 hx hy
      have hx' := henv x (by simp [opndsK])
      have hy' := henv y (by simp [opndsK])
      rw [hx] at hx'
      rw [hy] at hy'
      obtain ⟨m, hm, m1, m2⟩ := hx'
      obtain ⟨n, hn, n1, n2⟩ := hy'
      obtain ⟨u, ho⟩ := kind_add hkd
      unfold rng big at hk
      split at hk
      · rename_i hr
        obtain ⟨r1, r2⟩ := hr
        injection hk with hk
        subst hk
        refine wp_val' hd ((run_bin o a.eval w x y m n u hm hn).2.1 ho) ⟨m + n, ?_, by omega, by omega⟩ hW
        rw [IntWalk.i64_in _ (by omega)]
      · cases hk
    · cases hk
  | sub x y =>
    simp only [tyK] at hk
    split at hk
    · rename_i b1 b2 c1 c2 hx hy
      have hx' := henv x (by simp [opndsK])
      have hy' := henv y (by simp [opndsK])
      rw [hx] at hx'
      rw [hy] at hy'
      obtain ⟨m, hm, m1, m2⟩ := hx'
      obtain ⟨n, hn, n1, n2⟩ := hy'
      obtain ⟨u, ho⟩ := kind_sub hkd
      unfold rng big at hk
      split at hk
      · rename_i hr
        obtain ⟨r1, r2⟩ := hr
        injection hk with hk
        subst hk
        refine wp_val' hd ((run_bin o a.eval w x y m n u hm hn).2.2.1 ho) ⟨m - n, ?_, by omega, by omega⟩ hW
        rw [IntWalk.i64_in _ (by omega)]
      · cases hk
    · cases hk
  | quo x y =>
    simp only [tyK] at hk
    split at hk
    · rename_i b1 b2 c1 c2 hx hy
      split at hk
      case isFalse => cases hk
      rename_i hcc
      obtain ⟨h0, h1, h2⟩ := hcc
      subst h1
      have hx' := henv x (by simp [opndsK])
      have hy' := henv y (by simp [opndsK])
      rw [hx] at hx'
      rw [hy] at hy'
      obtain ⟨m, hm, m1, m2⟩ := hx'
      obtain ⟨n, hn, n1, n2⟩ := hy'
      obtain ⟨u, ho⟩ := kind_quo hkd
      unfold rng big at hk
      split at hk
      · rename_i hr
        obtain ⟨r1, r2⟩ := hr
        injection hk with hk
        subst hk
        obtain rfl : n = c1 := by omega
        have q1 : b1 / n ≤ m / n := Int.ediv_le_ediv (by omega) m1
        have q2 : m / n ≤ b2 / n := Int.ediv_le_ediv (by omega) m2
        refine wp_val' hd ((run_bin o a.eval w x y m n u hm hn).2.2.2.2 ho (by omega)) ⟨m / n, ?_, q1, q2⟩ hW
        have q0 : 0 ≤ b1 / n := Int.ediv_nonneg h0 (by omega)
        rw [Int.tdiv_eq_ediv_of_nonneg (by omega), IntWalk.i64_in _ (by omega)]
      · cases hk
    · cases hk
  | eql x y =>
    simp only [tyK] at hk
    split at hk
    · rename_i b1 b2 c1 c2 hx hy
      have hx' := henv x (by simp [opndsK])
      have hy' := henv y (by simp [opndsK])
      rw [hx] at hx'
      rw [hy] at hy'
      obtain ⟨m, hm, m1, m2⟩ := hx'
      obtain ⟨n, hn, n1, n2⟩ := hy'
      obtain ⟨u, ho⟩ := kind_eql hkd
      injection hk with hk
      subst hk
      exact wp_val' hd ((run_bin o a.eval w x y m n u hm hn).2.2.2.1 ho) ⟨_, rfl⟩ hW
    · cases hk
  | bs n ps =>
    simp only [tyK] at hk
    split at hk
    · rename_i q hq
      split at hk
      · rename_i hqn
        obtain ⟨hqn, hn1, hn8⟩ := hqn
        injection hk with hk
        subst hk
        obtain ⟨⟨qs⟩, ho, rfl⟩ := kind_bs hkd
        simp only at hq henv
        have hfin : ∀ (xs : List Int), Bds q xs → xs.length = n → (execOp a.eval o).run Try.prog w = .ok (.value (.slice (some ⟨w.heap.size, 0, none⟩) n n)) (w.alloc (.cells (ints xs) 3)) →
            Oper.wp Try.prog o a w (Goes D0 D B (.sl q) d g p k a w) Q := by
          intro xs hb hl hrun
          refine wp_val hd hrun ⟨w.heap.size, xs, by rw [hqn], by omega, by omega, alloc_new w xs _, hb⟩ (grownBy_alloc _ _ _) ?_
          obtain ⟨p', hp', hr⟩ := hW
          exact ⟨p', by omega, hr.keep (grownBy_alloc _ _ _)⟩
        clear hW
        cases qs with
        | nil => simp only [asInts, Option.some.injEq] at hq; subst hq; simp at hqn; omega
        | cons z0 r0 =>
          obtain ⟨i0, x0⟩ := z0
          obtain ⟨rfl, lo0, hi0, q0, t0, hq0, rfl⟩ := asInts_cons hq
          have e0 := henv x0 (by simp [opndsK])
          rw [t0] at e0
          obtain ⟨m0, v0, a0, b0⟩ := e0
          cases r0 with
          | nil =>
            simp only [asInts, Option.some.injEq] at hq0
            subst hq0
            simp only [List.length_cons, List.length_nil] at hqn
            subst hqn
            exact hfin [m0] ⟨a0, b0, trivial⟩ rfl (run_bs1 o a.eval w x0 m0 ho v0)
          | cons z1 r1 =>
            obtain ⟨i1, x1⟩ := z1
            obtain ⟨rfl, lo1, hi1, q1, t1, hq1, rfl⟩ := asInts_cons hq0
            have e1 := henv x1 (by simp [opndsK])
            rw [t1] at e1
            obtain ⟨m1, v1, a1, b1⟩ := e1
            cases r1 with
            | nil =>
              simp only [asInts, Option.some.injEq] at hq1
              subst hq1
              simp only [List.length_cons, List.length_nil] at hqn
              subst hqn
              exact hfin [m0, m1] ⟨a0, b0, a1, b1, trivial⟩ rfl (run_bs2 o a.eval w x0 x1 m0 m1 ho v0 v1)
            | cons z2 r2 =>
              obtain ⟨i2, x2⟩ := z2
              obtain ⟨rfl, lo2, hi2, q2, t2, hq2, rfl⟩ := asInts_cons hq1
              have e2 := henv x2 (by simp [opndsK])
              rw [t2] at e2
              obtain ⟨m2, v2, a2, b2⟩ := e2
              cases r2 with
              | nil =>
                simp only [asInts, Option.some.injEq] at hq2
                subst hq2
                simp only [List.length_cons, List.length_nil] at hqn
                subst hqn
                exact hfin [m0, m1, m2] ⟨a0, b0, a1, b1, a2, b2, trivial⟩ rfl (run_bs3 o a.eval w x0 x1 x2 m0 m1 m2 ho v0 v1 v2)
              | cons z3 r3 =>
                obtain ⟨i3, x3⟩ := z3
                obtain ⟨rfl, lo3, hi3, q3, t3, hq3, rfl⟩ := asInts_cons hq2
                have e3 := henv x3 (by simp [opndsK])
                rw [t3] at e3
                obtain ⟨m3, v3, a3, b3⟩ := e3
                cases r3 with
                | nil =>
                  simp only [asInts, Option.some.injEq] at hq3
                  subst hq3
                  simp only [List.length_cons, List.length_nil] at hqn
                  subst hqn
                  exact hfin [m0, m1, m2, m3] ⟨a0, b0, a1, b1, a2, b2, a3, b3, trivial⟩ rfl (run_bs4 o a.eval w x0 x1 x2 x3 m0 m1 m2 m3 ho v0 v1 v2 v3)
                | cons z4 r4 =>
                  obtain ⟨i4, x4⟩ := z4
                  obtain ⟨rfl, lo4, hi4, q4, t4, hq4, rfl⟩ := asInts_cons hq3
                  have e4 := henv x4 (by simp [opndsK])
                  rw [t4] at e4
                  obtain ⟨m4, v4, a4, b4⟩ := e4
                  cases r4 with
                  | nil =>
                    simp only [asInts, Option.some.injEq] at hq4
                    subst hq4
                    simp only [List.length_cons, List.length_nil] at hqn
                    subst hqn
                    exact hfin [m0, m1, m2, m3, m4] ⟨a0, b0, a1, b1, a2, b2, a3, b3, a4, b4, trivial⟩ rfl (run_bs5 o a.eval w x0 x1 x2 x3 x4 m0 m1 m2 m3 m4 ho v0 v1 v2 v3 v4)
                  | cons z5 r5 =>
                    obtain ⟨i5, x5⟩ := z5
                    obtain ⟨rfl, lo5, hi5, q5, t5, hq5, rfl⟩ := asInts_cons hq4
                    have e5 := henv x5 (by simp [opndsK])
                    rw [t5] at e5
                    obtain ⟨m5, v5, a5, b5⟩ := e5
                    cases r5 with
                    | nil =>
                      simp only [asInts, Option.some.injEq] at hq5
                      subst hq5
                      simp only [List.length_cons, List.length_nil] at hqn
                      subst hqn
                      exact hfin [m0, m1, m2, m3, m4, m5] ⟨a0, b0, a1, b1, a2, b2, a3, b3, a4, b4, a5, b5, trivial⟩ rfl (run_bs6 o a.eval w x0 x1 x2 x3 x4 x5 m0 m1 m2 m3 m4 m5 ho v0 v1 v2 v3 v4 v5)
                    | cons z6 r6 =>
                      obtain ⟨i6, x6⟩ := z6
                      obtain ⟨rfl, lo6, hi6, q6, t6, hq6, rfl⟩ := asInts_cons hq5
                      have e6 := henv x6 (by simp [opndsK])
                      rw [t6] at e6
                      obtain ⟨m6, v6, a6, b6⟩ := e6
                      cases r6 with
                      | nil =>
                        simp only [asInts, Option.some.injEq] at hq6
                        subst hq6
                        simp only [List.length_cons, List.length_nil] at hqn
                        subst hqn
                        exact hfin [m0, m1, m2, m3, m4, m5, m6] ⟨a0, b0, a1, b1, a2, b2, a3, b3, a4, b4, a5, b5, a6, b6, trivial⟩ rfl (run_bs7 o a.eval w x0 x1 x2 x3 x4 x5 x6 m0 m1 m2 m3 m4 m5 m6 ho v0 v1 v2 v3 v4 v5 v6)
                      | cons z7 r7 =>
                        obtain ⟨i7, x7⟩ := z7
                        obtain ⟨rfl, lo7, hi7, q7, t7, hq7, rfl⟩ := asInts_cons hq6
                        have e7 := henv x7 (by simp [opndsK])
                        rw [t7] at e7
                        obtain ⟨m7, v7, a7, b7⟩ := e7
                        cases r7 with
                        | nil =>
                          simp only [asInts, Option.some.injEq] at hq7
                          subst hq7
                          simp only [List.length_cons, List.length_nil] at hqn
                          subst hqn
                          exact hfin [m0, m1, m2, m3, m4, m5, m6, m7] ⟨a0, b0, a1, b1, a2, b2, a3, b3, a4, b4, a5, b5, a6, b6, a7, b7, trivial⟩ rfl (run_bs8 o a.eval w x0 x1 x2 x3 x4 x5 x6 x7 m0 m1 m2 m3 m4 m5 m6 m7 ho v0 v1 v2 v3 v4 v5 v6 v7)
                        | cons z8 r8 =>
                          obtain ⟨i8, x8⟩ := z8
                          obtain ⟨rfl, lo8, hi8, q8, t8, hq8, rfl⟩ := asInts_cons hq7
                          simp only [List.length_cons] at hqn
                          omega
      · cases hk
    · cases hk
  | ix x y =>
    simp only [tyK] at hk
    split at hk
    · rename_i q lo hi hx hy
      split at hk
      · rename_i hb
        obtain ⟨hb1, hb2⟩ := hb
        injection hk with hk
        subst hk
        have hx' := henv x (by simp [opndsK])
        have hy' := henv y (by simp [opndsK])
        rw [hx] at hx'
        rw [hy] at hy'
        obtain ⟨b, xs, hv, hDb, hbg, hh, hbd⟩ := hx'
        obtain ⟨n, hn, n1, n2⟩ := hy'
        obtain ⟨j, rfl⟩ := Int.eq_ofNat_of_zero_le (show 0 ≤ n by omega)
        have hj : j < q.length := by omega
        obtain ⟨z, hz, z1, z2⟩ := hbd.get hj
        have hmem := getD_mem hj
        have l1 := minOf_le hmem
        have l2 := le_maxOf hmem
        refine wp_val' hd (run_ix o a.eval w x y b q.length j hj (kind_ix hkd) hv hn) ⟨b, j, z, rfl, hDb, hbg, lt_of_heap hh, ?_, by omega, by omega⟩ hW
        rw [cell_of_row w b j _ _ _ hh]
        simp [ints, hz]
      · cases hk
    · cases hk
  | ld x =>
    simp only [tyK] at hk
    split at hk
    · rename_i lo hi hx
      injection hk with hk
      subst hk
      have hx' := henv x (by simp [opndsK])
      rw [hx] at hx'
      obtain ⟨b, j, z, hv, _, hbg, hlt, hc, z1, z2⟩ := hx'
      exact wp_val' hd (run_ld o a.eval w x b j z (kind_ld hkd) hv hc) ⟨z, rfl, z1, z2⟩ hW
    · cases hk
  | ldS x =>
    have hs := hS rfl
    simp only [tyK] at hk
    split at hk
    · rename_i e p1 p2 hx
      split at hk
      · rename_i he
        subst he
        injection hk with hk
        subst hk
        have hx' := henv x (by simp [opndsK])
        rw [hx] at hx'
        obtain ⟨b, xs, hv, hDb, hbg, hh, hbd⟩ := hx'
        match xs, hbd with
        | [m, n], hbd =>
          refine wp_val' hd (hs.load o a.eval w x b m n (kind_ldS hkd) hv ?_ ?_) ⟨[m, n], rfl, hbd⟩ hW
          · rw [cell_of_row w b 0 _ _ _ hh]; rfl
          · rw [cell_of_row w b 1 _ _ _ hh]; rfl
      · cases hk
    · cases hk
  | fa x i =>
    have hs := hS rfl
    simp only [tyK] at hk
    split at hk
    · rename_i e p1 p2 hx
      have hx' := henv x (by simp [opndsK])
      rw [hx] at hx'
      obtain ⟨b, xs, hv, hDb, hbg, hh, hbd⟩ := hx'
      match xs, hbd with
      | [m, n], hbd =>
        obtain ⟨g1, g2, g3, g4, _⟩ := hbd
        split at hk
        · rename_i he
          obtain ⟨he, hi⟩ := he
          subst he hi
          injection hk with hk
          subst hk
          refine wp_val' hd (hs.field o a.eval w x b 0 (by omega) (kind_fa hkd) hv) ⟨b, 0, m, rfl, hDb, hbg, lt_of_heap hh, ?_, g1, g2⟩ hW
          rw [cell_of_row w b 0 _ _ _ hh]; rfl
        · split at hk
          · rename_i he
            obtain ⟨he, hi⟩ := he
            subst he hi
            injection hk with hk
            subst hk
            refine wp_val' hd (hs.field o a.eval w x b 1 (by omega) (kind_fa hkd) hv) ⟨b, 1, n, rfl, hDb, hbg, lt_of_heap hh, ?_, g3, g4⟩ hW
            rw [cell_of_row w b 1 _ _ _ hh]; rfl
          · cases hk
    · cases hk
  | bd ps =>
    have hs := hS rfl
    obtain ⟨⟨qs⟩, ho, rfl⟩ := kind_bd hkd
    simp only at hk henv
    simp only [tyK] at hk
    split at hk
    · rename_i p1 p2 hq
      injection hk with hk
      subst hk
      match qs, hq with
      | [], hq => simp [asInts] at hq
      | [(i0, x0)], hq =>
        obtain ⟨_, lo0, hi0, q0, t0, hq0, e0⟩ := asInts_cons hq
        simp only [asInts, Option.some.injEq] at hq0
        subst hq0
        simp at e0
      | (i0, x0) :: (i1, x1) :: r, hq =>
        obtain ⟨rfl, lo0, hi0, q0, t0, hq0, e0⟩ := asInts_cons hq
        obtain ⟨rfl, lo1, hi1, q1, t1, hq1, e1⟩ := asInts_cons hq0
        subst e1
        simp only [List.cons.injEq] at e0
        obtain ⟨rfl, rfl, rfl⟩ := e0
        cases r with
        | cons z r =>
          obtain ⟨i2, x2⟩ := z
          obtain ⟨_, lo2, hi2, q2, _, _, e2⟩ := asInts_cons hq1
          cases e2
        | nil =>
          have e0 := henv x0 (by simp [opndsK])
          have e1 := henv x1 (by simp [opndsK])
          rw [t0] at e0
          rw [t1] at e1
          obtain ⟨m0, v0, a0, b0⟩ := e0
          obtain ⟨m1, v1, a1, b1⟩ := e1
          exact wp_val' hd (hs.build o a.eval w x0 x1 m0 m1 ho v0 v1) ⟨[m0, m1], rfl, a0, b0, a1, b1, trivial⟩ hW
    · cases hk
  | al =>
    have hs := hS rfl
    simp only [tyK, Option.some.injEq] at hk
    subst hk
    refine wp_val hd (hs.alloc o a.eval w (kind_al hkd)) ⟨w.heap.size, [0, 0], rfl, by omega, by omega, by omega, alloc_new w _ _, by simp [Bds]⟩ (grownBy_alloc _ _ _) ?_
    obtain ⟨p', hp', hr⟩ := hW
    exact ⟨p', by omega, hr.keep (grownBy_alloc _ _ _)⟩
end
end Go.Proofs.Ytdkdfehlmphikaa
/- A drawn region that the checker accepts: whatever the order, each slot of its head holds a value of its type, and the tail goes on from there. -/
namespace Go.Proofs.Ytdkdfehlmphikaa
open Go.RowKit
variable {D B : Nat}
def isDst (ops : Array Oper) (n : Nat) (s : Tmp) : Bool := (List.range n).any fun j => decide (dstOf ops j = some s)
def opndOk (ops : Array Oper) (n : Nat) (fr tys : List (Tmp × Ty)) (o : Oper) : Operand → Bool
  | .tmp s => (o.after.any fun e => Region.binds .any e && decide (dstOf ops e.on = some s)) || (!isDst ops n s && decide (tyAt tys s = tyAt fr s))
  | _ => true
def opOk (ops : Array Oper) (n : Nat) (S : TypeId) (useS : Bool) (fr tys : List (Tmp × Ty)) (i : Nat) : Bool :=
  match ops[i]? with
  | some o => (match o.dst with | some d => decide (tyK S tys (kindOf S o) = some (tyAt tys d)) | none => false) && (!usesS (kindOf S o) || useS) && (opndsK (kindOf S o)).all (opndOk ops n fr tys o)
  | none => false
def checkAll (ops : Array Oper) (size n : Nat) (S : TypeId) (useS : Bool) (fr tys : List (Tmp × Ty)) (ds : List Tmp) : Bool :=
  regOk ops size n && (List.range n).all (opOk ops n S useS fr tys) && decide (ds = (List.range n).filterMap (dstOf ops))
def putL : List Tmp → (Tmp → Value) → Act → Act
  | [], _, a => a
  | d :: r, f, a => putL r f (a.put (some d) (f d))
theorem putL_size : ∀ (ds : List Tmp) (f : Tmp → Value) (a : Act), (putL ds f a).tmps.size = a.tmps.size ∧ (putL ds f a).defers = a.defers
  | [], _, _ => ⟨rfl, rfl⟩
  | d :: r, f, a => by
    obtain ⟨h1, h2⟩ := putL_size r f (a.put (some d) (f d))
    exact ⟨by rw [putL, h1]; simp [Act.put], by rw [putL, h2]; rfl⟩
theorem putL_get : ∀ (ds : List Tmp) (f : Tmp → Value) (a : Act) (s : Tmp), s < a.tmps.size → (putL ds f a).tmps.getD s undef = if s ∈ ds then f s else a.tmps.getD s undef
  | [], _, _, _, _ => by simp [putL]
  | d :: r, f, a, s, hs => by
    rw [putL, putL_get r f (a.put (some d) (f d)) s (by simpa [Act.put] using hs)]
    by_cases hr : s ∈ r
    · simp [hr]
    · rw [if_neg hr]
      by_cases hsd : s = d
      · subst hsd
        rw [getD_put_same hs, if_pos (by simp)]
      · rw [getD_put hsd, if_neg (by simp [hsd, hr])]
theorem getD_in_lt {A : Array Value} {i : Nat} (h : i < A.size) : A.getD i undef = A[i] := by
  rw [Array.getD_eq_getD_getElem?, Array.getElem?_eq_getElem h]; rfl
theorem putL_eq {ds : List Tmp} {a0 a : Act} (hsz : a.tmps.size = a0.tmps.size) (hd : a.defers = a0.defers) (hfr : ∀ s, s ∉ ds → a.tmps.getD s undef = a0.tmps.getD s undef) :
    putL ds (fun d => a.tmps.getD d undef) a0 = a := by
  obtain ⟨h1, h2⟩ := putL_size ds (fun d => a.tmps.getD d undef) a0
  have ht : (putL ds (fun d => a.tmps.getD d undef) a0).tmps = a.tmps := by
    apply Array.ext
    · rw [h1, hsz]
    · intro i hi1 hi2
      have hg := putL_get ds (fun d => a.tmps.getD d undef) a0 i (by rw [← hsz]; exact hi2)
      have e1 := getD_in_lt hi1
      have e2 := getD_in_lt hi2
      rw [← e1, ← e2, hg]
      by_cases hm : i ∈ ds
      · rw [if_pos hm]
      · rw [if_neg hm, hfr i hm]
  generalize putL ds (fun d => a.tmps.getD d undef) a0 = b at *
  cases b
  cases a
  simp only at ht h2 hd
  rw [ht, h2, hd]
theorem tyAt_frame {g : Nat} {fr : List (Tmp × Ty)} {a0 : Act} {w : World} (h : ∀ q ∈ fr, q.2.Has D B g (a0.tmps.getD q.1 undef) w) (s : Tmp) : (tyAt fr s).Has D B g (a0.tmps.getD s undef) w := by
  unfold tyAt
  cases hf : fr.find? fun p => p.1 == s with
  | none => trivial
  | some q =>
    have h1 := List.find?_some hf
    have h2 := List.mem_of_find?_eq_some hf
    have : q.1 = s := by simpa using h1
    have := h q h2
    rw [← ‹q.1 = s›]
    exact this
theorem region_checked {id : Nat} {a0 : Act} {w0 : World} {Q : Exit → Act → World → Prop} (l : List Oper) (S : TypeId) (useS : Bool) (n size g p : Nat) (fr tys : List (Tmp × Ty)) (ds : List Tmp) (hsize : a0.tmps.size = size)
    (hok : checkAll l.toArray size n S useS fr tys ds = true) (hS : useS = true → SOk S) (hfr : ∀ q ∈ fr, q.2.Has D w0.heap.size g (a0.tmps.getD q.1 undef) w0) (hr : Rd D w0 g p) (hp : p + n ≤ 100000)
    (htail : ∀ (f : Tmp → Value) (w : World), (∀ d, d ∈ ds → (tyAt tys d).Has D w0.heap.size g (f d) w) → w0.grownBy w (some g) → (∃ p', p' ≤ p + n ∧ Rd D w g p') → wpList Try.prog l.toArray Q (l.drop n) (putL ds f a0) w) :
    (Code.region id l.toArray true).wp Try.prog Q a0 w0 := by
  simp only [checkAll, Bool.and_eq_true, decide_eq_true_eq] at hok
  obtain ⟨⟨h1, h2⟩, hds⟩ := hok
  have hmemds : ∀ s, s ∈ ds ↔ ∃ j, j < n ∧ dstOf l.toArray j = some s := fun s => by
    rw [hds, List.mem_filterMap]
    exact ⟨fun ⟨j, hj, e⟩ => ⟨j, List.mem_range.1 hj, e⟩, fun ⟨j, hj, e⟩ => ⟨j, List.mem_range.2 hj, e⟩⟩
  refine region_typed (by kernel_rfl) l n size g hsize h1 (fun d => (tyAt tys d).Has D w0.heap.size g) (fun k w => ∃ p', p' ≤ p + k ∧ Rd D w g p') (fun d v w w' hh hg => Ty.stable _ v w w' hh hg) ⟨p, Nat.le_refl _, hr⟩ ?_ ?_
  · have hall : ∀ (m : Nat) (r : List Oper) (i : Nat), r = (l.take n).drop i → AllOps (fun _ o => ∀ d, o.dst = some d → ∀ k a w, k < n → a.defers = a0.defers → (∀ s, (∀ j, j < n → dstOf l.toArray j ≠ some s) → a.tmps.getD s undef = a0.tmps.getD s undef) →
        (∀ s, (∃ e ∈ o.after, Region.binds .any e = true ∧ dstOf l.toArray e.on = some s) → (tyAt tys s).Has D w0.heap.size g (a.tmps.getD s undef) w) → w0.drew.grownBy w (some g) → (∃ p', p' ≤ p + k ∧ Rd D w g p') →
        Oper.wp Try.prog o a w (fun a' w' => ∃ v, a' = a.put (some d) v ∧ (tyAt tys d).Has D w0.heap.size g v w' ∧ w.grownBy w' (some g) ∧ ∃ p', p' ≤ p + (k + 1) ∧ Rd D w' g p') Q) m r := by
      intro m r
      induction r generalizing m with
      | nil => intro i _; trivial
      | cons o r ih =>
        intro i hi
        have hio : (l.take n)[i]? = some o := by
          have : ((l.take n).drop i)[0]? = some o := by rw [← hi]; rfl
          simpa using this
        have hin : i < n := by
          have := (List.getElem?_eq_some_iff.1 hio).1
          rw [List.length_take] at this; omega
        have hlo : l.toArray[i]? = some o := by rw [List.getElem?_take, if_pos hin] at hio; simpa using hio
        refine ⟨?_, ih (m + 1) (i + 1) ?_⟩
        · intro d hd k a w hk hdef hfrm hdep hgr hW
          have hc := List.all_eq_true.1 h2 i (List.mem_range.2 hin)
          unfold opOk at hc
          rw [hlo] at hc
          simp only [hd, Bool.and_eq_true, decide_eq_true_eq] at hc
          obtain ⟨⟨hty, hus⟩, hop⟩ := hc
          refine kd_sound (S := S) (l := tys) hd hty (fun hu => hS (by rw [hu] at hus; simpa using hus)) (fun x hx => ?_) hW (by omega) hgr.size hr.1
          have hxo := List.all_eq_true.1 hop x hx
          cases x with
          | tmp s =>
            simp only [opndOk, Bool.or_eq_true, Bool.and_eq_true, decide_eq_true_eq] at hxo
            rcases hxo with hx1 | ⟨hx1, hx2⟩
            · obtain ⟨e, he, hb⟩ := Array.any_eq_true'.1 hx1
              simp only [Bool.and_eq_true, decide_eq_true_eq] at hb
              exact hdep s ⟨e, he, hb.1, hb.2⟩
            · have hnot : ∀ j, j < n → dstOf l.toArray j ≠ some s := fun j hj hjs => by
                have : isDst l.toArray n s = true := List.any_eq_true.2 ⟨j, List.mem_range.2 hj, by simpa using hjs⟩
                rw [this] at hx1; cases hx1
              show (tyAt tys s).Has D w0.heap.size g (a.tmps.getD s undef) w
              rw [hx2, hfrm s hnot]
              exact Ty.stable _ _ _ _ (tyAt_frame hfr s) (grownBy_tr (⟨rfl, rfl, rfl, Nat.le_refl _, fun _ _ _ => rfl⟩ : w0.grownBy w0.drew (some g)) hgr)
          | const v =>
            cases v with
            | int kd m =>
              cases kd <;> first | exact ⟨m, rfl, Int.le_refl _, Int.le_refl _⟩ | trivial
            | _ => trivial
          | global _ => trivial
          | func _ => trivial
        · rw [← List.tail_drop, ← hi]; rfl
    exact hall 0 (l.take n) 0 (by simp)
  · intro a w hsz hdef hfrm htyp hgr hW
    have hpe := putL_eq (ds := ds) (a0 := a0) (a := a) (by rw [hsz, hsize]) hdef (fun s hs => hfrm s (fun j hj hjs => hs ((hmemds s).2 ⟨j, hj, hjs⟩)))
    rw [← hpe]
    exact htail (fun d => a.tmps.getD d undef) w (fun d hd => by
      obtain ⟨j, hj, hjs⟩ := (hmemds d).1 hd
      exact htyp j d hj hjs) (grownBy_tr (⟨rfl, rfl, rfl, Nat.le_refl _, fun _ _ _ => rfl⟩ : w0.grownBy w0.drew (some g)) hgr) hW
theorem gb_set {w w' : World} {g b : Nat} (h : w.grownBy w' (some g)) (hb : w.heap.size ≤ b) (i : Nat) (u : Value) : w.grownBy (w'.setCell ⟨b, i, none⟩ u) (some g) :=
  ⟨h.os, h.tape, h.output, by simpa using h.size, fun k hk hr => (heap_setCell_other w' ⟨b, i, none⟩ k u (by simp only []; omega)).trans (h.block k hk hr)⟩
theorem gb_alloc {w w' : World} {r : Option Nat} (h : w.grownBy w' r) (o : Obj) : w.grownBy (w'.alloc o) r := grownBy_tr h (grownBy_alloc _ _ _)
theorem gb_none {w w' w'' : World} {r : Option Nat} (h : w.grownBy w' r) (k : w'.grownBy w'' none) : w.grownBy w'' r :=
  grownBy_tr h ⟨k.os, k.tape, k.output, k.size, fun i hi _ => k.block i hi (by simp)⟩
theorem Box.by {w w' : World} {g b T : Nat} {vs : List Value} (h : Box w b T vs) (hg : w.grownBy w' (some g)) (hb : b ≠ g) : Box w' b T vs := (hg.block b h.lt (fun e => hb (by simpa using e))).trans h
end Go.Proofs.Ytdkdfehlmphikaa
/- The law of XReg once more, for regions whose head holds statements without a slot (stores) too: what such a one leaves is said by 'F'; 'G' says how the world may turn. what each operation leaves is said by its slot alone ('T'), and stays true whatever the others do; then the order does not matter, and each operation is looked at once. No program in sight. -/
namespace Go.Proofs.Ytdkdfehlmphikaa
open Go Go.RowKit
section
variable {P : Program} {ops : Array Oper} {Q : Exit → Act → World → Prop}
/-- What the shape of the region must be: the first n operations have slots of their own, no guard, and wait only for those before them. -/
def headOkG (ops : Array Oper) (size n : Nat) : Bool :=
  (List.range n).all fun i =>
    (match ops[i]? with
      | some o => o.guard.isNone && (match o.dst with | some d => decide (d < size) | none => true) && (o.after.all fun e => !Region.binds .any e || decide (e.on < i))
      | none => false) &&
    (List.range i).all fun j => dstOf ops i == none || decide (dstOf ops j ≠ dstOf ops i)
theorem headOk_specG {size n : Nat} (h : headOkG ops size n = true) {i : Nat} (hi : i < n) :
    ∃ o, ops[i]? = some o ∧ o.guard = none ∧ (∀ d, o.dst = some d → d < size ∧ ∀ j, j < i → dstOf ops j ≠ some d) ∧ (∀ e ∈ o.after, Region.binds .any e = true → e.on < i) := by
  have h1 := List.all_eq_true.1 h i (List.mem_range.2 hi)
  simp only [Bool.and_eq_true] at h1
  obtain ⟨h2, h3⟩ := h1
  cases ho : ops[i]? with
  | none => rw [ho] at h2; cases h2
  | some o =>
    rw [ho] at h2
    simp only [Bool.and_eq_true] at h2
    obtain ⟨⟨g, d⟩, e⟩ := h2
    refine ⟨o, rfl, by simpa using g, fun t hd => ?_, fun x hx => ?_⟩
    · rw [hd] at d
      refine ⟨by simpa using d, fun j hj => ?_⟩
      have := List.all_eq_true.1 h3 j (List.mem_range.2 hj)
      have e2 : dstOf ops i = some t := by simp [dstOf, ho, hd]
      rw [e2] at this
      simpa using this
    · obtain ⟨m, hm, rfl⟩ := Array.mem_iff_getElem.1 hx
      have := Array.all_eq_true.1 e m hm
      intro hb
      rw [hb] at this
      simpa using this
/-- The state in the middle of the region. -/
structure RInvG (ops : Array Oper) (n : Nat) (a0 : Act) (w0 : World) (G : World → World → Prop) (T : Tmp → Value → World → Prop) (F : Nat → World → Prop) (W : Nat → World → Prop) (listed : Array Bool) (k : Nat) (a : Act) (w : World) : Prop where
  head : HeadInv .any ops n listed
  size : a.tmps.size = a0.tmps.size
  defers : a.defers = a0.defers
  frame : ∀ s, (∀ i, i < n → dstOf ops i ≠ some s) → a.tmps.getD s undef = a0.tmps.getD s undef
  typed : ∀ i d, i < n → dstOf ops i = some d → listed.getD i false = true → T d (a.tmps.getD d undef) w
  stored : ∀ i o, i < n → ops[i]? = some o → o.dst = none → listed.getD i false = true → F i w
  grown : G w0 w
  cnt : W k w
/-- What an operation of the head leaves. -/
def PostG (G : World → World → Prop) (T : Tmp → Value → World → Prop) (F : Nat → World → Prop) (W : Nat → World → Prop) (k i : Nat) (o : Oper) (a : Act) (w : World) (a' : Act) (w' : World) : Prop :=
  G w w' ∧ W (k + 1) w' ∧ match o.dst with | some d => ∃ v, a' = a.put (some d) v ∧ T d v w' | none => a' = a ∧ F i w'
theorem wpAny_typedG {n : Nat} {a0 : Act} {w0 : World} {G : World → World → Prop} {T : Tmp → Value → World → Prop} {F : Nat → World → Prop} {W : Nat → World → Prop} (hGt : ∀ a b c, G a b → G b c → G a c) (l : List Oper) (hl : ops = l.toArray) (hn : n < ops.size)
    (hs : Region.sinkB .any ops n = true) (hc : Region.chainB .any ops n = true) (hok : headOkG ops a0.tmps.size n = true)
    (hseq : Region.seqB .any ops (ops.size - n) n (Array.replicate n true ++ Array.replicate (ops.size - n) false) = true)
    (hT : ∀ d v w w', T d v w → G w w' → T d v w') (hF : ∀ i w w', F i w → G w w' → F i w')
    (hop : ∀ i o, i < n → ops[i]? = some o → ∀ k a w, k < n → a.defers = a0.defers → (∀ s, (∀ j, j < n → dstOf ops j ≠ some s) → a.tmps.getD s undef = a0.tmps.getD s undef) →
      (∀ s, (∃ e ∈ o.after, Region.binds .any e = true ∧ dstOf ops e.on = some s) → T s (a.tmps.getD s undef) w) → G w0 w → W k w →
      Oper.wp P o a w (PostG G T F W k i o a w) Q)
    (htail : ∀ a w, a.tmps.size = a0.tmps.size → a.defers = a0.defers → (∀ s, (∀ j, j < n → dstOf ops j ≠ some s) → a.tmps.getD s undef = a0.tmps.getD s undef) →
      (∀ i d, i < n → dstOf ops i = some d → T d (a.tmps.getD d undef) w) → (∀ i o, i < n → ops[i]? = some o → o.dst = none → F i w) → G w0 w → W n w → wpList P ops Q (l.drop n) a w) :
    ∀ (m : Nat) (L : List Nat) (listed : Array Bool) (k : Nat) (a : Act) (w : World), L.Nodup → L.length = m → (∀ i, i ∈ L ↔ (i < n ∧ listed.getD i true = false)) → k + m = n →
      RInvG ops n a0 w0 G T F W listed k a w → wpAny P .any ops Q (m + (ops.size - n)) listed a w := by
  intro m
  induction m with
  | zero =>
    intro L listed k a w _ hL hmem hk inv
    have hnil : L = [] := List.length_eq_zero_iff.1 hL
    subst hnil
    have hall : ∀ i, i < n → listed.getD i false = true := fun i hi => by
      have h1 : ¬ (i < n ∧ listed.getD i true = false) := fun h => by have := (hmem i).2 h; cases this
      have hsz : i < listed.size := by rw [inv.head.size]; omega
      cases hb : listed[i]'hsz with
      | true => simp [hsz, hb]
      | false => exact absurd ⟨hi, by simp [hsz, hb]⟩ h1
    have hlist : listed = Array.replicate n true ++ Array.replicate (ops.size - n) false := by
      apply Array.ext
      · simp [inv.head.size]; omega
      · intro i h1 h2
        by_cases hi : i < n
        · have := hall i hi
          simp only [Array.getD_eq_getD_getElem?, Array.getElem?_eq_getElem h1, Option.getD_some] at this
          rw [this, Array.getElem_append_left (by simpa using hi)]; simp
        · have := inv.head.tail i (by omega) (by rw [inv.head.size] at h1; exact h1)
          simp only [Array.getD_eq_getD_getElem?, Array.getElem?_eq_getElem h1, Option.getD_some] at this
          rw [this, Array.getElem_append_right (by simpa using hi)]; simp
    obtain rfl : k = n := by omega
    have hw := htail a w inv.size inv.defers inv.frame (fun i d hi hd => inv.typed i d hi hd (hall i hi)) (fun i o hi ho hd => inv.stored i o hi ho hd (hall i hi)) inv.grown inv.cnt
    rw [hlist]
    have hlen : (l.drop k).length = ops.size - k := by rw [hl]; simp
    have := wpAny_of_seq (md := .any) (Q' := Q) (P := P) (ops := ops) (l.drop k) k (Array.replicate k true ++ Array.replicate (ops.size - k) false) a w (fun j => by rw [hl]; simp [List.getElem?_drop]) (by rw [hlen]; exact hseq) hw
    rw [hlen] at this
    rw [Nat.zero_add]
    exact this
  | succ m ih =>
    intro L listed k a w hnd hL hmem hk inv
    rw [show m + 1 + (ops.size - n) = (m + (ops.size - n)) + 1 from by omega]
    -- some operation of the head is open
    have hopen : ∃ i, i < n ∧ listed.getD i true = false := by
      cases hLL : L with
      | nil => rw [hLL] at hL; cases hL
      | cons i r => exact ⟨i, (hmem i).1 (by rw [hLL]; simp)⟩
    have hleast : ∃ i, i < n ∧ listed.getD i true = false ∧ ∀ j, j < i → listed.getD j true ≠ false := by
      obtain ⟨i0, hi0⟩ := hopen
      have : ∀ b i, i ≤ b → i < n → listed.getD i true = false → ∃ i, i < n ∧ listed.getD i true = false ∧ ∀ j, j < i → listed.getD j true ≠ false := by
        intro b
        induction b with
        | zero => intro i hi h1 h2; exact ⟨i, h1, h2, fun j hj => by omega⟩
        | succ b ihb =>
          intro i hi h1 h2
          by_cases h : ∃ j, j < i ∧ listed.getD j true = false
          · obtain ⟨j, hj, hj2⟩ := h; exact ihb j (by omega) (by omega) hj2
          · exact ⟨i, h1, h2, fun j hj hj2 => h ⟨j, hj, hj2⟩⟩
      exact this i0 i0 (Nat.le_refl _) hi0.1 hi0.2
    obtain ⟨i1, hi1, hu1, hmin⟩ := hleast
    have hr1 : i1 ∈ Region.ready .any ops listed := by
      obtain ⟨o, ho, _, _, haft⟩ := headOk_specG hok hi1
      refine mem_ready.2 ⟨hu1, o, ho, fun e he hb => ?_⟩
      have := hmin e.on (haft e he hb)
      have hsz : e.on < listed.size := by rw [inv.head.size]; have := haft e he hb; omega
      simp only [Array.getD_eq_getD_getElem?, Array.getElem?_eq_getElem hsz, Option.getD_some] at this ⊢
      simpa using this
    refine ⟨fun h0 => (by rw [h0] at hr1; cases hr1), fun i hi => ?_⟩
    have hin : i < n := by
      rcases Nat.lt_or_ge i n with h | h
      · exact h
      · exact absurd hi (tail_waits hs hc hn inv.head _ i1 rfl hi1 hu1 i h)
    obtain ⟨hui, oi, hoi, hall⟩ := mem_ready.1 hi
    obtain ⟨o, ho, hg, hdd, haft⟩ := headOk_specG hok hin
    obtain rfl : oi = o := Option.some.inj (hoi.symm.trans ho)
    have hstep := hop i oi hin ho k a w (by omega) inv.defers inv.frame (fun s ⟨e, he, hb, hes⟩ => inv.typed e.on s (by have := haft e he hb; omega) hes (hall e he hb)) inv.grown inv.cnt
    have hw : wpOp P ops Q i (PostG G T F W k i oi a w) a w := by
      unfold wpOp
      simp only [ho]
      rw [if_pos (by simp [Region.wanted, hg])]
      exact .inl hstep
    refine wpOp_mono (fun a' w' hh => ?_) hw
    obtain ⟨hgr, hW, hh⟩ := hh
    have hmem' : ∀ j, j ∈ L.erase i ↔ (j < n ∧ (listed.setIfInBounds i true).getD j true = false) := by
      intro j
      rw [hnd.mem_erase_iff, hmem j]
      by_cases hji : j = i
      · subst hji
        have hsz : j < listed.size := by rw [inv.head.size]; omega
        simp [hsz]
      · rw [getD_set_ne true (fun h => hji h.symm)]
        exact ⟨fun h => h.2, fun h => ⟨hji, h⟩⟩
    have hlen' : (L.erase i).length = m := by rw [List.length_erase_of_mem ((hmem i).2 ⟨hin, hui⟩), hL]; rfl
    cases hd : oi.dst with
    | none =>
      simp only [hd] at hh
      obtain ⟨rfl, hF'⟩ := hh
      refine ih (L.erase i) (listed.setIfInBounds i true) (k + 1) _ w' (hnd.erase i) hlen' hmem' (by omega) ⟨inv.head.set hi hin, inv.size, inv.defers, inv.frame, ?_, ?_, hGt _ _ _ inv.grown hgr, hW⟩
      · intro j s hj hjs hlj
        by_cases hji : j = i
        · subst hji
          simp [dstOf, ho, hd] at hjs
        · rw [getD_set_ne false (fun h => hji h.symm)] at hlj
          exact hT _ _ _ _ (inv.typed j s hj hjs hlj) hgr
      · intro j oj hj hoj hdj hlj
        by_cases hji : j = i
        · subst hji
          exact hF'
        · rw [getD_set_ne false (fun h => hji h.symm)] at hlj
          exact hF _ _ _ (inv.stored j oj hj hoj hdj hlj) hgr
    | some d =>
      simp only [hd] at hh
      obtain ⟨v, rfl, hTv⟩ := hh
      obtain ⟨hds, hdist⟩ := hdd d hd
      have hdi : dstOf ops i = some d := by simp [dstOf, ho, hd]
      have hne : ∀ j s, j < n → j ≠ i → dstOf ops j = some s → s ≠ d := by
        intro j s hj hji hjs hsd
        subst hsd
        rcases Nat.lt_or_gt_of_ne hji with h | h
        · exact hdist j h hjs
        · obtain ⟨oj, hoj, _, hdj, _⟩ := headOk_specG hok hj
          have e1 : oj.dst = some s := by simpa [dstOf, hoj] using hjs
          exact (hdj s e1).2 i h hdi
      refine ih (L.erase i) (listed.setIfInBounds i true) (k + 1) _ w' (hnd.erase i) hlen' hmem' (by omega) ⟨inv.head.set hi hin, ?_, ?_, ?_, ?_, ?_, hGt _ _ _ inv.grown hgr, hW⟩
      · simp [Act.put, inv.size]
      · exact inv.defers
      · intro s hs'
        rw [getD_put (fun h => hs' i hin (by rw [hdi, h]))]
        exact inv.frame s hs'
      · intro j s hj hjs hlj
        by_cases hji : j = i
        · subst hji
          rw [hdi] at hjs
          injection hjs with e
          subst e
          rw [getD_put_same (by rw [inv.size]; exact hds)]
          exact hTv
        · rw [getD_put (hne j s hj hji hjs)]
          rw [getD_set_ne false (fun h => hji h.symm)] at hlj
          exact hT _ _ _ _ (inv.typed j s hj hjs hlj) hgr
      · intro j oj hj hoj hdj hlj
        by_cases hji : j = i
        · subst hji
          rw [hoj] at ho
          injection ho with e
          rw [e, hd] at hdj
          cases hdj
        · rw [getD_set_ne false (fun h => hji h.symm)] at hlj
          exact hF _ _ _ (inv.stored j oj hj hoj hdj hlj) hgr
def regOkG (ops : Array Oper) (size n : Nat) : Bool :=
  decide (n < ops.size) && Region.sinkB .any ops n && Region.chainB .any ops n && headOkG ops size n && Region.seqB .any ops (ops.size - n) n (Array.replicate n true ++ Array.replicate (ops.size - n) false)
theorem region_typedG {id : Nat} {a0 : Act} {w0 : World} {G : World → World → Prop} {T : Tmp → Value → World → Prop} {F : Nat → World → Prop} {W : Nat → World → Prop} (hGr : ∀ a, G a a) (hGt : ∀ a b c, G a b → G b c → G a c) (hm : P.follows .mixedOrders = true) (l : List Oper) (n size : Nat) (hsize : a0.tmps.size = size) (hok : regOkG l.toArray size n = true)
    (hT : ∀ d v w w', T d v w → G w w' → T d v w') (hF : ∀ i w w', F i w → G w w' → F i w') (h0 : W 0 w0.drew)
    (hop : AllOps (fun i o => ∀ k a w, k < n → a.defers = a0.defers → (∀ s, (∀ j, j < n → dstOf l.toArray j ≠ some s) → a.tmps.getD s undef = a0.tmps.getD s undef) →
      (∀ s, (∃ e ∈ o.after, Region.binds .any e = true ∧ dstOf l.toArray e.on = some s) → T s (a.tmps.getD s undef) w) → G w0.drew w → W k w →
      Oper.wp P o a w (PostG G T F W k i o a w) Q) 0 (l.take n))
    (htail : ∀ a w, a.tmps.size = size → a.defers = a0.defers → (∀ s, (∀ j, j < n → dstOf l.toArray j ≠ some s) → a.tmps.getD s undef = a0.tmps.getD s undef) →
      (∀ i d, i < n → dstOf l.toArray i = some d → T d (a.tmps.getD d undef) w) → (∀ i o, i < n → l.toArray[i]? = some o → o.dst = none → F i w) → G w0.drew w → W n w → wpList P l.toArray Q (l.drop n) a w) :
    (Code.region id l.toArray true).wp P Q a0 w0 := by
  subst hsize
  simp only [regOkG, Bool.and_eq_true, decide_eq_true_eq] at hok
  obtain ⟨⟨⟨⟨hn, hs⟩, hc⟩, hh⟩, hseq⟩ := hok
  refine wp_region_any hm ?_
  have inv0 : HeadInv .any l.toArray n (Array.replicate l.toArray.size false) :=
    ⟨by simp, fun j oj _ hl => (by rw [getD_replicate_false] at hl; cases hl), fun t _ ht => getD_in (by simpa using ht) (getD_replicate_false _ _)⟩
  have H := wpAny_typedG (P := P) (Q := Q) (a0 := a0) (w0 := w0.drew) (F := F) hGt l rfl hn hs hc hh hseq hT hF
    (fun i o hi ho k a w hk => by
      have hl : (l.take n)[i]? = some o := by rw [List.getElem?_take, if_pos hi]; simpa using ho
      have := hop.get hl
      rw [Nat.zero_add] at this
      exact this k a w hk)
    htail n (List.range n) (Array.replicate l.toArray.size false) 0 a0 w0.drew List.nodup_range (by simp) (fun i => by
      rw [List.mem_range]
      refine ⟨fun hi => ⟨hi, getD_in (by simp; simp at hn; omega) (getD_replicate_false _ _)⟩, fun h => h.1⟩) (by omega)
    ⟨inv0, rfl, rfl, fun _ _ => rfl, fun i d _ _ hl => (by rw [getD_replicate_false] at hl; cases hl), fun i o _ _ _ hl => (by rw [getD_replicate_false] at hl; cases hl), hGr _, h0⟩
  rw [show n + (l.toArray.size - n) = l.toArray.size from by omega] at H
  exact H
end
end Go.Proofs.Ytdkdfehlmphikaa
/- What every law over drawn bytes needs: the reader opened over the bytes that came in; 'alive'. -/
namespace Go.Proofs.Ytdkdfehlmphikaa
open Go.RowKit
variable {D : Nat}
theorem gb_below {B g : Nat} {w w' : World} (h : w.grownBy w' (some g)) (hB : B ≤ w.heap.size) (hg : B ≤ g) : Below B w w' :=
  ⟨h.os, h.tape, h.output, h.size, fun k hk => h.block k (by omega) (fun e => by simp at e; omega)⟩
/-- The bytes that came in, as the draws want them; they last while the world grows. -/
def Code (D : Nat) (w : World) (a : Option Addr) (len : Nat) : Prop :=
  len = 0 ∨ ∃ b off, a = some ⟨b, off, none⟩ ∧ b < D ∧ ∀ i, i < len → ∃ x : Int, w.cell? ⟨b, off + i, none⟩ = some (.int .u8 x) ∧ 0 ≤ x ∧ x ≤ 255
theorem IsRow.code {w : World} {a : Option Addr} {len cap : Nat} {zs : List Int} (h : IsRow .u8 w a len cap zs) : Code w.heap.size w a len := h.bytes
theorem IsRow.caps {k : IntKind} {w : World} {a : Option Addr} {len cap : Nat} {zs : List Int} (h : IsRow k w a len cap zs) : len ≤ cap ∧ cap ≤ maxLen := by
  rcases h with ⟨_, rfl, rfl, _⟩ | ⟨_, _, h1, h2, _⟩
  · exact ⟨Nat.le_refl _, Nat.zero_le _⟩
  · exact ⟨h1, h2⟩
theorem Code.below {w w' : World} {a : Option Addr} {len : Nat} (h : Code D w a len) (hb : Below D w w') : Code D w' a len :=
  h.imp id fun ⟨b, off, ha, hlt, hc⟩ => ⟨b, off, ha, hlt, fun i hi => by
    obtain ⟨x, hx, hx2⟩ := hc i hi
    exact ⟨x, (hb.cell (p := ⟨b, off + i, none⟩) hlt).trans hx, hx2⟩⟩
theorem c_alive (w : World) : Calls Try.prog 19 #[] w fun e w' => e = .returned (.bool true) ∧ Below w.heap.size w w' := by
  have hf : Calls Try.prog 62 #[.agg #[.int .i64 0, .int .i64 0, .int .i64 0, .int .i64 0, .int .i64 2]] w fun e w' => e = .returned (.bool true) ∧ Below w.heap.size w w' := by
    have h1 : inB 0 0 255 = true := by decide
    have h2 : inB 0 0 999 = true := by decide
    have h3 : inB 2 1 2 = true := by decide
    go_enter Try.func62, Try.ntmps62
    go_wp2_with (go_at_call 63; refine (c_in _ _ _ _).mono ?_; rintro e w' ⟨rfl, rfl⟩)
    go_ret
    exact ⟨rfl, by go_grown⟩
  have HF := Lib.hid hf
  clear hf
  go_enter Try.func19, Try.ntmps19
  go_wp2_with fail
  refine HF.out.mono ?_
  rintro e w' ⟨rfl, hb⟩
  go_wp2_with fail
  go_ret
  exact ⟨rfl, hb⟩
end Go.Proofs.Ytdkdfehlmphikaa
/- Small laws for a drawn list that grows by 'append'. -/
namespace Go.Proofs.Ytdkdfehlmphikaa
open Go.RowKit
variable {D : Nat}
theorem news_one (w : World) (T : TypeId) (v : Value) : ∀ (j : Nat) (u : Value), [v][j]? = some u → (w.alloc (.cells #[v] T)).cell? ((⟨w.heap.size, 0, none⟩ : Addr).add j) = some u := by
  intro j u hu
  match j, hu with
  | 0, hu =>
    have := (Box.new w T [v]).cell 0
    simpa [Addr.add] using this.trans hu
theorem one_cell (k : Int) : ∀ u ∈ [Value.int .i64 k], u.oneCell' = true := by
  intro u hu
  simp only [List.mem_cons, List.not_mem_nil, or_false] at hu
  subst hu
  rfl
theorem infoInt8 : (Try.prog.info? 3).map (fun i => (i.zero, i.size, i.bytes)) = some (some (.int .i64 0), 1, 8) := by kernel_rfl
/-- The reader stands while another's block turns. -/
theorem Rd.far {w w' : World} {g p b : Nat} (h : Rd D w g p) (hb : w.grownBy w' (some b)) (hD : D ≤ b) (hbg : b ≠ g) : Rd D w' g p := by
  have hlt := h.lt
  obtain ⟨hDg, a, len, cap, h1, h2, h3⟩ := h
  refine ⟨hDg, a, len, cap, (hb.block g hlt (fun e => hbg (by simpa using e.symm))).trans h1, h2, h3.imp id ?_⟩
  rintro ⟨c, off, ha, hne, hlt2, hc⟩
  exact ⟨c, off, ha, hne, Nat.lt_of_lt_of_le hlt2 hb.size, fun i hi => by
    obtain ⟨x, hx, hx2⟩ := hc i hi
    exact ⟨x, (World.cell?_of_block (hb.block c hlt2 (by
      intro e
      have : c = b := by simpa using e
      omega))).trans hx, hx2⟩⟩
/-- What turns only a block of one's own turns nothing that was there. -/
theorem gb_own {w w1 w2 : World} {r : Option Nat} {b : Nat} (h : w.grownBy w1 r) (k : w1.grownBy w2 (some b)) (hb : w.heap.size ≤ b) : w.grownBy w2 r :=
  ⟨k.os.trans h.os, k.tape.trans h.tape, k.output.trans h.output, Nat.le_trans h.size k.size, fun i hi hr => (k.block i (Nat.lt_of_lt_of_le hi h.size) (by
    intro e
    have : i = b := by simpa using e
    omega)).trans (h.block i hi hr)⟩
theorem gb_none' {w w' w'' : World} {r : Option Nat} (h : w.grownBy w' none) (k : w'.grownBy w'' r) : w.grownBy w'' r :=
  grownBy_tr ⟨h.os, h.tape, h.output, h.size, fun i hi _ => h.block i hi (by simp)⟩ k
/-- A list of at most m numbers in a range is drawn; besides the reader nothing that was there has turned. -/
def RetL (D : Nat) (w : World) (g p m : Nat) (most : Nat) (lo hi : Int) (e : Ending) (w' : World) : Prop :=
  ∃ (b cap : Nat) (xs : List Int), e = .returned (.slice (some ⟨b, 0, none⟩) xs.length cap) ∧ xs.length ≤ most ∧ (∀ x ∈ xs, lo ≤ x ∧ x ≤ hi) ∧
    w'.ownsRow w.heap.size 3 1 (.slice (some ⟨b, 0, none⟩) xs.length cap) xs.length (xs.map (Value.int .i64)) ∧ (∃ p', p' ≤ p + m ∧ Rd D w' g p') ∧ w.grownBy w' (some g)
theorem own_empty (w : World) : (w.alloc (.cells #[] 3)).ownsRow w.heap.size 3 1 (.slice (some ⟨w.heap.size, 0, none⟩) 0 0) 0 [] :=
  ⟨rfl, .inr ⟨w.heap.size, 0, #[], rfl, Nat.le_refl _, heap_alloc_new w _, Nat.le_refl _, by unfold maxLen; omega, rfl, rfl⟩⟩
end Go.Proofs.Ytdkdfehlmphikaa
/- A law for 'append' to a row of one's own, in a region that draws, guarded or not: the length and the list are given by name. No condition. -/
namespace Go.Proofs.Ytdkdfehlmphikaa
open Go.RowKit
theorem step_app {ops : Array Oper} {o : Oper} {a : Act} {K : Act → World → Prop} {Q : Exit → Act → World → Prop} {E : Prop} (w : World) (hw : Region.wanted o (yielded ops a.tmps) = true) (s x : Operand)
    (ho : o.op = .call { callee := .builtin .append, args := #[s, x], argTypes := #[27, 27] })
    (base : Nat) (v : Value) (n : Nat) (xs : List Int) (hs : a.eval s = v) (hown : w.ownsRow base 3 1 v n (xs.map (Value.int .i64)))
    (ad : Addr) (m c : Nat) (news : List Int) (hx : a.eval x = .slice (some ad) m c) (hl : news.length = m) (hnews : ∀ j u, (news.map (Value.int .i64))[j]? = some u → w.cell? (ad.add j) = some u)
    (hm : 0 < m) (hnm : n + m ≤ 1000000) (hbase : base ≤ w.heap.size) (N : Nat) (hN : n + m = N) (ys : List Int) (hys : xs ++ news = ys)
    (h : ∀ g cap w', w'.ownsRow base 3 1 (.slice (some ⟨g, 0, none⟩) N cap) N (ys.map (Value.int .i64)) → w.grownBy w' v.ownBlock → (v.ownBlock = some g ∨ g = w.heap.size) → g < w'.heap.size → K (a.put o.dst (.slice (some ⟨g, 0, none⟩) N cap)) w') :
    if Region.wanted o (yielded ops a.tmps) = true then Oper.wp Try.prog o a w K Q else E := by
  obtain ⟨i0, hi, hz0, hz1, hz2⟩ := info_parts infoInt8
  rw [if_pos hw]
  refine wp_append_lies w s x 27 ho base 3 i0 (.int .i64 0) 1 8 Try.underlying27 hi hz0 hz1 hz2 rfl (by decide) v n _ hs hown ad m c (news.map (Value.int .i64)) hx (by simpa using hl) hnews ?_ hm (by unfold maxLen; omega) (by omega) hbase _ rfl ?_
  · intro u hu
    obtain ⟨k, _, rfl⟩ := List.mem_map.1 hu
    rfl
  · intro g cap w' h2 h3 h4 h5
    rw [← List.map_append, hys, hN] at h2
    rw [hN]
    exact h g cap w' h2 h3 h4 h5
theorem own_emp {B : Nat} (w : World) (h : B ≤ w.heap.size) : (w.alloc (.cells #[] 3)).ownsRow B 3 1 (.slice (some ⟨w.heap.size, 0, none⟩) 0 0) 0 (([] : List Int).map (Value.int .i64)) :=
  ⟨rfl, .inr ⟨w.heap.size, 0, #[], rfl, h, heap_alloc_new w _, Nat.le_refl _, by unfold maxLen; omega, rfl, rfl⟩⟩
theorem own_emp2 {B : Nat} (w : World) (g : Nat) (hg : w.heap.size = g) (h : B ≤ g) : (w.alloc (.cells #[] 3)).ownsRow B 3 1 (.slice (some ⟨g, 0, none⟩) 0 0) 0 (([] : List Int).map (Value.int .i64)) := by
  subst hg; exact own_emp w h
theorem one_news {w : World} {ad : Addr} {k : Int} (h : w.cell? ad = some (.int .i64 k)) : ∀ j u, ([k].map (Value.int .i64))[j]? = some u → w.cell? (ad.add j) = some u := by
  intro j u hu
  match j, hu with
  | 0, hu =>
    simp only [List.map_cons, List.map_nil, List.getElem?_cons_zero, Option.some.injEq] at hu
    subst hu
    simpa [Addr.add] using h
theorem cell_new1 (w : World) (v : Value) (T : TypeId) : (w.alloc (.cells #[v] T)).cell? ⟨w.heap.size, 0, none⟩ = some v := (Box.new w T [v]).cell 0
theorem cell_new2 (w : World) (v : Value) (T : TypeId) (g : Nat) (h : w.heap.size = g) : (w.alloc (.cells #[v] T)).cell? ⟨g, 0, none⟩ = some v := by subst h; exact cell_new1 w v T
end Go.Proofs.Ytdkdfehlmphikaa
/- Rows of whatever elements, as flat lists of cells: read, owned, kept, made longer. No program in sight but the seat's own name. -/
namespace Go.Proofs.Ytdkdfehlmphikaa
open Go.RowKit
/-- a leads to the cells vs (nothing is said where there are none). -/
def Vals (w : World) (a : Option Addr) (vs : List Value) : Prop :=
  vs = [] ∨ ∃ b off, a = some ⟨b, off, none⟩ ∧ b < w.heap.size ∧ ∀ (i : Nat) (u : Value), vs[i]? = some u → w.cell? ⟨b, off + i, none⟩ = some u
theorem Vals.below {w w' : World} {a : Option Addr} {vs : List Value} (h : Vals w a vs) (hb : Below w.heap.size w w') : Vals w' a vs := by
  rcases h with h | ⟨b, off, ha, hlt, hc⟩
  · exact .inl h
  · exact .inr ⟨b, off, ha, Nat.lt_of_lt_of_le hlt hb.size, fun i u hi => (hb.cell (p := ⟨b, off + i, none⟩) hlt).trans (hc i u hi)⟩
theorem Vals.drew {w : World} {a : Option Addr} {vs : List Value} (h : Vals w a vs) : Vals w.drew a vs := h
theorem Ints.vals {w : World} {a : Option Addr} {xs : List Int} (h : Ints w a xs) : Vals w a (xs.map (Value.int .i64)) := by
  rcases h with h | ⟨b, off, ha, hlt, hc⟩
  · exact .inl (by rw [h]; rfl)
  · refine .inr ⟨b, off, ha, hlt, fun i u hi => ?_⟩
    rw [List.getElem?_map] at hi
    obtain ⟨x, hx, rfl⟩ := Option.map_eq_some_iff.1 hi
    have hlt' := (List.getElem?_eq_some_iff.1 hx).1
    rw [hc i hlt', List.getD_eq_getElem?_getD, hx]; rfl
theorem Vals.ints {w : World} {a : Option Addr} {xs : List Int} (h : Vals w a (xs.map (Value.int .i64))) : Ints w a xs := by
  rcases h with h | ⟨b, off, ha, hlt, hc⟩
  · exact .inl (by simpa using h)
  · exact .inr ⟨b, off, ha, hlt, fun i hi => hc i _ (by rw [List.getElem?_map, getD_of_lt hi]; rfl)⟩
/-- What an owned row reads as. -/
theorem row_vals {w : World} {base n cap : Nat} {e : TypeId} {size : Nat} {a : Option Addr} {vs : List Value} (h : w.ownsRow base e size (.slice a n cap) n vs) : Vals w a vs := by
  rcases h.2 with ⟨h1, h2⟩ | ⟨g, c, cur, h1, hb, hg, _⟩
  · exact .inl (List.eq_nil_of_length_eq_zero (by rw [h.1, h2]; simp))
  · injection h1 with h3 _ h4
    subst h3 h4
    refine .inr ⟨g, 0, rfl, (h.lt g rfl).2, fun i u hi => ?_⟩
    have := h.cells (g := g) rfl i u hi
    rw [Nat.zero_add]
    have ea : (⟨g, 0, none⟩ : Addr).add i = ⟨g, i, none⟩ := by unfold Addr.add; split <;> simp_all
    rwa [ea] at this
theorem row_len {w : World} {base n : Nat} {e : TypeId} {size : Nat} {v : Value} {vs : List Value} (h : w.ownsRow base e size v n vs) : vs.length = n * size := h.1
theorem row_kept {w w' : World} {base n : Nat} {e : TypeId} {size : Nat} {v : Value} {r : Option Nat} {vs : List Value} (h : w.ownsRow base e size v n vs) (hg : w.grownBy w' r) (hne : ∀ k, v.ownBlock = some k → r ≠ some k) : w'.ownsRow base e size v n vs := by
  refine h.kept hg ?_
  cases hb : v.ownBlock with
  | none => exact .inl rfl
  | some k => exact .inr (fun e => hne k hb e.symm)
theorem row_below {w w' : World} {base n : Nat} {e : TypeId} {size : Nat} {v : Value} {vs : List Value} (h : w.ownsRow base e size v n vs) (hb : Below w.heap.size w w') : w'.ownsRow base e size v n vs :=
  row_kept h (below_grown hb) fun _ _ => by simp
theorem row_nil (w : World) (B : Nat) (e : TypeId) (size : Nat) : w.ownsRow B e size (.slice none 0 0) 0 [] := ⟨by simp, .inl ⟨rfl, rfl⟩⟩
theorem row_emp {B : Nat} (w : World) (g : Nat) (e : TypeId) (size : Nat) (hg : w.heap.size = g) (h : B ≤ g) : (w.alloc (.cells #[] e)).ownsRow B e size (.slice (some ⟨g, 0, none⟩) 0 0) 0 [] := by
  subst hg
  exact ⟨by simp, .inr ⟨w.heap.size, 0, #[], rfl, h, heap_alloc_new w _, Nat.le_refl _, by unfold maxLen; omega, by simp, by simp⟩⟩
theorem row_cap {w : World} {base n cap : Nat} {e : TypeId} {size : Nat} {a : Option Addr} {vs : List Value} (h : w.ownsRow base e size (.slice a n cap) n vs) : n ≤ cap ∧ cap ≤ maxLen := by
  rcases h.2 with ⟨h1, h2⟩ | ⟨_, _, _, h1, _, _, h2, h3, _⟩
  · injection h1 with _ h3 h4; subst h3 h4; exact ⟨Nat.le_refl _, Nat.zero_le _⟩
  · injection h1 with _ _ h4; subst h4; exact ⟨h2, h3⟩
/-- What has turned only an owned row has turned nothing that was there. -/
theorem gb_row' {w w1 w2 : World} {v : Value} {n : Nat} {e : TypeId} {size : Nat} {r : Option Nat} {vs : List Value} (h : w.grownBy w1 r) (ho : w1.ownsRow w.heap.size e size v n vs) (k : w1.grownBy w2 v.ownBlock) : w.grownBy w2 r :=
  ⟨k.os.trans h.os, k.tape.trans h.tape, k.output.trans h.output, Nat.le_trans h.size k.size, fun i hi hr => (k.block i (Nat.lt_of_lt_of_le hi h.size) (by
    intro e
    have := (ho.lt i e.symm).1
    omega)).trans (h.block i hi hr)⟩
theorem gb_dr {w w' : World} {r : Option Nat} (h : w.grownBy w' r) : w.grownBy w'.drew r := ⟨h.os, h.tape, h.output, h.size, h.block⟩
theorem gb_al {w w' : World} {r : Option Nat} (h : w.grownBy w' r) (o : Obj) : w.grownBy (w'.alloc o) r :=
  ⟨h.os, h.tape, h.output, Nat.le_trans h.size (by simp), fun k hk hr => (Below.heap_alloc w' o k (Nat.lt_of_lt_of_le hk h.size)).trans (h.block k hk hr)⟩
/-- T is the type of slices of e, and e has so many cells. -/
def Elem (T e : TypeId) (size bytes : Nat) : Prop :=
  ∃ (i : TypeInfo) (z : Value), Try.prog.underlying T = some (.slice e) ∧ Try.prog.info? e = some i ∧ i.zero = some z ∧ i.size = size ∧ i.bytes = bytes ∧ z.cells.size = size ∧ 0 < size ∧ bytes ≤ 100
theorem elem_mk {T e : TypeId} {size bytes : Nat} (z : Value) (hT : Try.prog.underlying T = some (.slice e)) (hi : (Try.prog.info? e).map (fun i => (i.zero, i.size, i.bytes)) = some (some z, size, bytes)) (hz : z.cells.size = size) (h0 : 0 < size) (hb : bytes ≤ 100) : Elem T e size bytes := by
  obtain ⟨i0, hi, hz0, hz1, hz2⟩ := info_parts hi
  exact ⟨i0, z, hT, hi, hz0, hz1, hz2, hz, h0, hb⟩
section
variable {ops : Array Oper} {rest : List Oper} {o : Oper} {a : Act} {K : Act → World → Prop} {Q : Exit → Act → World → Prop} {E : Prop} {T e : TypeId} {size bytes : Nat}
theorem wp_app (w : World) (H : Elem T e size bytes) (s x : Operand)
    (ho : o.op = .call { callee := .builtin .append, args := #[s, x], argTypes := #[T, T] })
    (base : Nat) (v : Value) (n : Nat) (xs : List Value) (hs : a.eval s = v) (hown : w.ownsRow base e size v n xs)
    (ad : Addr) (m c : Nat) (news : List Value) (hx : a.eval x = .slice (some ad) m c) (hl : news.length = m * size) (hnews : ∀ j u, news[j]? = some u → w.cell? (ad.add j) = some u) (h1 : ∀ u ∈ news, u.oneCell' = true)
    (hm : 0 < m) (hnm : n + m ≤ 2000000) (hbase : base ≤ w.heap.size) (N : Nat) (hN : n + m = N) (ys : List Value) (hys : xs ++ news = ys)
    (h : ∀ g cap w', w'.ownsRow base e size (.slice (some ⟨g, 0, none⟩) N cap) N ys → w.grownBy w' v.ownBlock → (v.ownBlock = some g ∨ g = w.heap.size) → g < w'.heap.size → K (a.put o.dst (.slice (some ⟨g, 0, none⟩) N cap)) w') :
    Oper.wp Try.prog o a w K Q := by
  obtain ⟨i0, z, hT, hi, hz0, hz1, hz2, hz, h0, hb⟩ := H
  have hby : (n + m) * bytes ≤ 2000000 * 100 := Nat.mul_le_mul hnm hb
  refine wp_append_lies w s x T ho base e i0 z size bytes hT hi hz0 hz1 hz2 hz h0 v n _ hs hown ad m c news hx hl hnews h1 hm (by unfold maxLen; omega) (by omega) hbase _ rfl ?_
  intro g cap w' h2 h3 h4 h5
  rw [hys, hN] at h2
  rw [hN]
  exact h g cap w' h2 h3 h4 h5
theorem step_app' (w : World) (hw : Region.wanted o (yielded ops a.tmps) = true) (H : Elem T e size bytes) (s x : Operand)
    (ho : o.op = .call { callee := .builtin .append, args := #[s, x], argTypes := #[T, T] })
    (base : Nat) (v : Value) (n : Nat) (xs : List Value) (hs : a.eval s = v) (hown : w.ownsRow base e size v n xs)
    (ad : Addr) (m c : Nat) (news : List Value) (hx : a.eval x = .slice (some ad) m c) (hl : news.length = m * size) (hnews : ∀ j u, news[j]? = some u → w.cell? (ad.add j) = some u) (h1 : ∀ u ∈ news, u.oneCell' = true)
    (hm : 0 < m) (hnm : n + m ≤ 2000000) (hbase : base ≤ w.heap.size) (N : Nat) (hN : n + m = N) (ys : List Value) (hys : xs ++ news = ys)
    (h : ∀ g cap w', w'.ownsRow base e size (.slice (some ⟨g, 0, none⟩) N cap) N ys → w.grownBy w' v.ownBlock → (v.ownBlock = some g ∨ g = w.heap.size) → g < w'.heap.size → K (a.put o.dst (.slice (some ⟨g, 0, none⟩) N cap)) w') :
    if Region.wanted o (yielded ops a.tmps) = true then Oper.wp Try.prog o a w K Q else E := by
  rw [if_pos hw]
  exact wp_app w H s x ho base v n xs hs hown ad m c news hx hl hnews h1 hm hnm hbase N hN ys hys h
theorem wpl_app (w : World) (hgd : o.guard = none) (H : Elem T e size bytes) (s x : Operand)
    (ho : o.op = .call { callee := .builtin .append, args := #[s, x], argTypes := #[T, T] })
    (base : Nat) (v : Value) (n : Nat) (xs : List Value) (hs : a.eval s = v) (hown : w.ownsRow base e size v n xs)
    (ad : Addr) (m c : Nat) (news : List Value) (hx : a.eval x = .slice (some ad) m c) (hl : news.length = m * size) (hnews : ∀ j u, news[j]? = some u → w.cell? (ad.add j) = some u) (h1 : ∀ u ∈ news, u.oneCell' = true)
    (hm : 0 < m) (hnm : n + m ≤ 2000000) (hbase : base ≤ w.heap.size) (N : Nat) (hN : n + m = N) (ys : List Value) (hys : xs ++ news = ys)
    (h : ∀ g cap w', w'.ownsRow base e size (.slice (some ⟨g, 0, none⟩) N cap) N ys → w.grownBy w' v.ownBlock → (v.ownBlock = some g ∨ g = w.heap.size) → g < w'.heap.size → wpList Try.prog ops Q rest (a.put o.dst (.slice (some ⟨g, 0, none⟩) N cap)) w') :
    wpList Try.prog ops Q (o :: rest) a w :=
  wpList_plain hgd fun _ hK => wp_app w H s x ho base v n xs hs hown ad m c news hx hl hnews h1 hm hnm hbase N hN ys hys fun g cap w' h2 h3 h4 h5 => hK _ _ (h g cap w' h2 h3 h4 h5)
end
/-- The cells of a new block. -/
theorem news_of {w : World} {b : Nat} {T : TypeId} {vs : List Value} (h : Box w b T vs) : ∀ j u, vs[j]? = some u → w.cell? ((⟨b, 0, none⟩ : Addr).add j) = some u := fun j u hu => by
  have ea : (⟨b, 0, none⟩ : Addr).add j = ⟨b, j, none⟩ := by unfold Addr.add; split <;> simp_all
  rw [ea, h.cell j]; exact hu
theorem one1 {v : Value} (h : v.oneCell' = true) : ∀ u ∈ [v], u.oneCell' = true := by
  intro u hu
  simp only [List.mem_cons, List.not_mem_nil, or_false] at hu
  subst hu; exact h
theorem Box.new2 (w : World) (T : TypeId) (vs : List Value) (g : Nat) (h : w.heap.size = g) : Box (w.alloc (.cells vs.toArray T)) g T vs := by subst h; exact Box.new w T vs
/-- A new row is the answer. -/
def RetRow (w : World) (e : TypeId) (size n : Nat) (vs : List Value) (en : Ending) (w' : World) : Prop :=
  ∃ (a : Option Addr) (cap : Nat), en = .returned (.slice a n cap) ∧ w'.ownsRow w.heap.size e size (.slice a n cap) n vs ∧ w.grownBy w' none
end Go.Proofs.Ytdkdfehlmphikaa
/- Contracts of markIntS and heldIntS: a list of the call's own is marked, and read again. No condition but the bounds that each states. -/
namespace Go.Proofs.Ytdkdfehlmphikaa
open Go.RowKit
/-- k, k + 1, .. : n numbers. -/
def upFrom (k : Int) (n : Nat) : List Int := (List.range n).map fun (j : Nat) => k + (j : Int)
theorem upFrom_len (k : Int) (n : Nat) : (upFrom k n).length = n := by simp [upFrom]
theorem upFrom_get (k : Int) (n j : Nat) (h : j < n) : (upFrom k n).getD j 0 = k + (j : Int) := by
  simp [upFrom, List.getD_eq_getElem?_getD, h]
/-- The list is marked: it holds k, k + 1, ..; besides it nothing that was there has turned. -/
def RetMark (w : World) (base g n cap : Nat) (k : Int) (e : Ending) (w' : World) : Prop :=
  e = .returned (.int .i64 (k + (n : Int))) ∧ w'.ownsRow base 3 1 (.slice (some ⟨g, 0, none⟩) n cap) n ((upFrom k n).map (Value.int .i64)) ∧ w.grownBy w' (some g)
theorem grownBy.trans' {a b c : World} {r : Option Nat} (h : a.grownBy b r) (k : b.grownBy c r) : a.grownBy c r :=
  ⟨k.os.trans h.os, k.tape.trans h.tape, k.output.trans h.output, Nat.le_trans h.size k.size, fun i hi hr => (k.block i (Nat.lt_of_lt_of_le hi h.size) hr).trans (h.block i hi hr)⟩
theorem grownBy.rfl' (a : World) (r : Option Nat) : a.grownBy a r := ⟨rfl, rfl, rfl, Nat.le_refl _, fun _ _ _ => rfl⟩
set_option maxHeartbeats 400000 in
theorem c_markIntS (base g n cap : Nat) (k : Int) (xs : List Int) (w : World) (hn : n ≤ 1048576) (hk0 : 0 ≤ k) (hk : k ≤ 1000000000) (h : w.ownsRow base 3 1 (.slice (some ⟨g, 0, none⟩) n cap) n (xs.map (Value.int .i64))) :
    Calls Try.prog 38 #[.slice (some ⟨g, 0, none⟩) n cap, .int .i64 k] w (RetMark w base g n cap k) := by
  have HO := Lib.hid h
  clear h
  go_enter Try.func38, Try.ntmps38
  go_wp2
  go_loopw [1, 5] (fun q i wr => ∃ (j : Nat) (C : List Value), j ≤ n ∧ i = .int .i64 j ∧ q = .int .i64 (k + (j : Int)) ∧ C.length = n ∧ (∀ t, t < j → C[t]? = some (.int .i64 (k + (t : Int)))) ∧ wr.ownsRow base 3 1 (.slice (some ⟨g, 0, none⟩) n cap) n C ∧ w.grownBy wr (some g)) (fun _ i _ => n - (intOf i).toNat)
  case atStart => exact ⟨0, _, Nat.zero_le _, rfl, by simp, by have := HO.out.1; simpa using this, fun j hj => by omega, HO.out, grownBy.rfl' _ _⟩
  case round =>
    obtain ⟨j, C, hj, rfl, rfl, hC, hCk, hown, hgr⟩ := hrel
    have HO' := Lib.hid hown
    have HG := Lib.hid hgr
    have HK := Lib.hid hCk
    have HC := Lib.hid hC
    clear hown hgr hCk hC
    by_cases hlt : j < n
    · have hc2 := HO'.out.cellAt j (by omega)
      have hc3 := HO'.out.frozenAt j
      have hc4 : C[j]? = some (C[j]'(by have := HC.out; omega)) := List.getElem?_eq_getElem _
      rw [hc4] at hc2
      have hst := HO'.out.stored j (.int .i64 (k + (j : Int)))
      have HS := Lib.hid hst.1
      have HS2 := Lib.hid hst.2
      generalize C[j]'(by have := HC.out; omega) = cv at hc2 hc4
      clear hc4 hst
      go_wp2
      go_roundw
      case rel =>
        refine ⟨j + 1, C.set j (.int .i64 (k + (j : Int))), by omega, by go_num, by go_num, by simp [HC.out], fun t ht => ?_, HS.out, grownBy.trans' HG.out HS2.out⟩
        by_cases htj : t = j
        · subst htj; rw [List.getElem?_set_self (by rw [HC.out]; omega)]
        · rw [List.getElem?_set_ne (by omega)]; exact HK.out t (by omega)
      case measure => simp [intOf]; omega
    · obtain rfl : j = n := by omega
      go_wp2
      go_ret
      refine ⟨rfl, ?_, HG.out⟩
      have e : C = (upFrom k j).map (Value.int .i64) := cells_eq (by rw [HC.out, upFrom_len]) (fun t ht => by rw [upFrom_len] at ht; rw [upFrom_get k j t ht]; exact HK.out t ht)
      rw [← e]
      exact HO'.out
set_option maxHeartbeats 400000 in
theorem c_heldIntS (a : Option Addr) (n cap : Nat) (k : Int) (w : World) (hn : n ≤ 1048576) (hk0 : 0 ≤ k) (hk : k ≤ 1000000000) (h : Ints w a (upFrom k n)) :
    Calls Try.prog 39 #[.slice a n cap, .int .i64 k] w fun e w' => e = .returned (.int .i64 (k + (n : Int))) ∧ w = w' := by
  have HI := Lib.hid h
  clear h
  go_enter Try.func39, Try.ntmps39
  go_wp2
  go_loop [1, 5] (fun q i => ∃ (j : Nat), j ≤ n ∧ i = .int .i64 j ∧ q = .int .i64 (k + (j : Int))) (fun _ i => n - (intOf i).toNat)
  case atStart => exact ⟨0, Nat.zero_le _, rfl, by simp⟩
  case round =>
    obtain ⟨j, hj, rfl, rfl⟩ := hrel
    by_cases hlt : j < n
    · rcases HI.out with h0 | ⟨b, off, ha, hb, hcell⟩
      · have := congrArg List.length h0; rw [upFrom_len] at this; simp at this; omega
      · have hc1 := hcell j (by rw [upFrom_len]; exact hlt)
        rw [upFrom_get k n j hlt] at hc1
        subst ha
        clear hcell
        go_wp2
        go_round
        case rel => exact ⟨j + 1, by omega, by go_num, by go_num⟩
        case measure => simp [intOf]; omega
    · obtain rfl : j = n := by omega
      go_wp2
      go_ret
      exact ⟨rfl, rfl⟩
end Go.Proofs.Ytdkdfehlmphikaa
/- New rows, nil or not: they are read, marked, and stay while other blocks turn. No condition. -/
namespace Go.Proofs.Ytdkdfehlmphikaa
open Go.RowKit
theorem own_ints {w : World} {base n cap : Nat} {a : Option Addr} {xs : List Int} (h : w.ownsRow base 3 1 (.slice a n cap) n (xs.map (Value.int .i64))) : Ints w a xs ∧ xs.length = n := by
  have hl : xs.length = n := by have := h.1; simpa using this
  rcases h.2 with ⟨h1, h2⟩ | ⟨g, c, cur, h1, _⟩
  · injection h1 with h3 _ _
    subst h3
    exact ⟨.inl (List.eq_nil_of_length_eq_zero (by omega)), hl⟩
  · injection h1 with h3 _ h4
    subst h3 h4
    exact ⟨ownsRow.ints h, hl⟩
theorem own_kept {w w' : World} {base n : Nat} {v : Value} {r : Option Nat} {xs : List Value} (h : w.ownsRow base 3 1 v n xs) (hg : w.grownBy w' r) (hne : ∀ k, v.ownBlock = some k → r ≠ some k) : w'.ownsRow base 3 1 v n xs := by
  refine h.kept hg ?_
  cases hb : v.ownBlock with
  | none => exact .inl rfl
  | some k => exact .inr (fun e => hne k hb e.symm)
theorem c_markNil (k : Int) (w : World) :
    Calls Try.prog 38 #[.slice none 0 0, .int .i64 k] w fun e w' => e = .returned (.int .i64 k) ∧ w = w' := by
  go_enter Try.func38, Try.ntmps38
  go_wp2
  go_loop [1, 5] (fun q i => q = .int .i64 k ∧ i = .int .i64 0) (fun _ _ => 0)
  case atStart => exact ⟨rfl, rfl⟩
  case round =>
    obtain ⟨rfl, rfl⟩ := hrel
    go_wp2
    go_ret
    exact ⟨rfl, rfl⟩
theorem c_markV (base n : Nat) (a : Option Addr) (cap : Nat) (k : Int) (xs : List Int) (w : World) (hn : n ≤ 1048576) (hk0 : 0 ≤ k) (hk : k ≤ 1000000000) (h : w.ownsRow base 3 1 (.slice a n cap) n (xs.map (Value.int .i64))) :
    Calls Try.prog 38 #[.slice a n cap, .int .i64 k] w fun e w' => e = .returned (.int .i64 (k + (n : Int))) ∧
      w'.ownsRow base 3 1 (.slice a n cap) n ((upFrom k n).map (Value.int .i64)) ∧ w.grownBy w' (Value.slice a n cap).ownBlock := by
  rcases h.2 with ⟨h1, h2⟩ | ⟨g, c, cur, h1, _⟩
  · injection h1 with h3 h4 h5
    subst h3 h4 h5
    refine (c_markNil k w).mono ?_
    rintro e w' ⟨rfl, rfl⟩
    exact ⟨by simp, ⟨rfl, .inl ⟨rfl, rfl⟩⟩, World.grownBy.refl _ _⟩
  · injection h1 with h3 _ h5
    subst h3 h5
    refine (c_markIntS base g n cap k xs w hn hk0 hk h).mono ?_
    rintro e w' ⟨rfl, h1, h2⟩
    exact ⟨rfl, h1, h2⟩
/-- A new list of the numbers xs (nil or not where there are none); nothing that was there has turned. -/
def RetNew (w : World) (xs : List Int) (e : Ending) (w' : World) : Prop :=
  ∃ (a : Option Addr) (cap : Nat), e = .returned (.slice a xs.length cap) ∧ w'.ownsRow w.heap.size 3 1 (.slice a xs.length cap) xs.length (xs.map (Value.int .i64)) ∧ w.grownBy w' none
end Go.Proofs.Ytdkdfehlmphikaa
/- Lists of ints as rows: toIntS, markIntS. No condition but the bounds that each states. -/
namespace Go.Proofs.Ytdkdfehlmphikaa
open Go.RowKit
theorem r_markIntS (base n : Nat) (a : Option Addr) (cap : Nat) (k : Int) (xs : List Int) (w : World) (hn : n ≤ 1048576) (hk0 : 0 ≤ k) (hk : k ≤ 1000000000) (h : w.ownsRow base 3 1 (.slice a n cap) n (xs.map (Value.int .i64))) :
    Calls Try.prog 38 #[.slice a n cap, .int .i64 k] w fun e w' => e = .returned (.int .i64 (k + (n : Int))) ∧
      w'.ownsRow base 3 1 (.slice a n cap) n ((upFrom k n).map (Value.int .i64)) ∧ w.grownBy w' (Value.slice a n cap).ownBlock := c_markV base n a cap k xs w hn hk0 hk h
end Go.Proofs.Ytdkdfehlmphikaa
/- 'append' of a whole list, nil or not, to a row of one's own: the new value's shape, and where it lies. No condition. -/
namespace Go.Proofs.Ytdkdfehlmphikaa
open Go.RowKit
theorem own_form {w : World} {base n : Nat} {e : TypeId} {size : Nat} {v : Value} {vs : List Value} (h : w.ownsRow base e size v n vs) : ∃ a cap, v = .slice a n cap := by
  rcases h.2 with ⟨h1, h2⟩ | ⟨g, c, cur, h1, _⟩
  · exact ⟨none, 0, by rw [h1, h2]⟩
  · exact ⟨_, _, h1⟩
theorem own_none {w : World} {base n cap : Nat} {e : TypeId} {size : Nat} {a : Option Addr} {vs : List Value} (h : w.ownsRow base e size (.slice a n cap) n vs) : a = none → n = 0 ∧ cap = 0 := by
  intro ha
  rcases h.2 with ⟨h1, h2⟩ | ⟨g, c, cur, h1, _⟩
  · injection h1 with _ _ h4; exact ⟨h2, h4⟩
  · injection h1 with h3; rw [ha] at h3; cases h3
theorem elemI : Elem 27 3 1 8 := elem_mk (.int .i64 0) Try.underlying27 (by kernel_rfl) rfl (by decide) (by decide)
theorem run_appA {T e : TypeId} {size bytes : Nat} (w : World) (ty : TypeId) (H : Elem T e size bytes) (base : Nat) (v : Value) (n : Nat) (xs : List Value) (hown : w.ownsRow base e size v n xs)
    (a : Option Addr) (m c : Nat) (news : List Value) (hx : Vals w a news) (hl : news.length = m * size) (h1 : ∀ u ∈ news, u.oneCell' = true) (ha : a = none → m = 0 ∧ c = 0) (hnm : n + m ≤ 2000000) (hbase : base ≤ w.heap.size) :
    ∃ a' cap w', (Builtin.append_ #[T, T] ty #[v, .slice a m c]).run Try.prog w = .ok (.slice a' (n + m) cap) w' ∧ w'.ownsRow base e size (.slice a' (n + m) cap) (n + m) (xs ++ news) ∧ w.grownBy w' v.ownBlock ∧
      ((Value.slice a' (n + m) cap).ownBlock = v.ownBlock ∨ (Value.slice a' (n + m) cap).ownBlock = some w.heap.size) := by
  obtain ⟨i0, z, hT, hi, hz0, hz1, hz2, hz, h0, hb⟩ := H
  have hby : (n + m) * bytes ≤ 2000000 * 100 := Nat.mul_le_mul hnm hb
  cases a with
  | none =>
    obtain ⟨rfl, rfl⟩ := ha rfl
    have hn : news = [] := List.eq_nil_of_length_eq_zero (by simpa using hl)
    subst hn
    have hrun := run_append_owned_none (P := Try.prog) (w := w) base T ty e i0 size hT hi v n xs hown
    obtain ⟨a', cap, rfl⟩ := own_form hown
    exact ⟨a', cap, w, hrun, by simpa using hown, World.grownBy.refl _ _, .inl rfl⟩
  | some p =>
    have hnews : ∀ j u, news[j]? = some u → w.cell? (p.add j) = some u := by
      intro j u hu
      rcases hx with h | ⟨b, off, hab, _, hc⟩
      · rw [h] at hu; simp at hu
      · cases hab
        have ea : (⟨b, off, none⟩ : Addr).add j = ⟨b, off + j, none⟩ := by
          unfold Addr.add
          split
          · rename_i hi0; subst hi0; rfl
          · rfl
        rw [ea]; exact hc j u hu
    obtain ⟨v', w', hr, h2, h3, _, h5⟩ := run_append_own_at (P := Try.prog) w base T ty e i0 z size bytes hT hi hz0 hz1 hz2 hz h0 v n xs hown p m c news hl hnews h1 (by unfold maxLen; omega) (by omega) hbase
    obtain ⟨a', cap, rfl⟩ := own_form h2
    exact ⟨a', cap, w', hr, h2, h3, h5⟩
section
variable {ops : Array Oper} {rest : List Oper} {o : Oper} {a : Act} {K : Act → World → Prop} {Q : Exit → Act → World → Prop} {E : Prop} {T e : TypeId} {size bytes : Nat}
theorem wp_appA (w : World) (H : Elem T e size bytes) (s x : Operand)
    (ho : o.op = .call { callee := .builtin .append, args := #[s, x], argTypes := #[T, T] })
    (base : Nat) (v : Value) (n : Nat) (xs : List Value) (hs : a.eval s = v) (hown : w.ownsRow base e size v n xs)
    (ad : Option Addr) (m c : Nat) (news : List Value) (hx : a.eval x = .slice ad m c) (hnews : Vals w ad news) (hl : news.length = m * size) (h1 : ∀ u ∈ news, u.oneCell' = true)
    (had : ad = none → m = 0 ∧ c = 0) (hnm : n + m ≤ 2000000) (hbase : base ≤ w.heap.size) (N : Nat) (hN : n + m = N) (ys : List Value) (hys : xs ++ news = ys)
    (h : ∀ a' cap w', w'.ownsRow base e size (.slice a' N cap) N ys → w.grownBy w' v.ownBlock → ((Value.slice a' N cap).ownBlock = v.ownBlock ∨ (Value.slice a' N cap).ownBlock = some w.heap.size) → K (a.put o.dst (.slice a' N cap)) w') :
    Oper.wp Try.prog o a w K Q := by
  obtain ⟨a', cap, w', hr, h2, h3, h4⟩ := run_appA w o.type H base v n xs hown ad m c news hnews hl h1 had hnm hbase
  rw [hN] at hr h2 h4
  rw [hys] at h2
  unfold Oper.wp execOp
  simp only [ho, resolve, invoke, builtin, Sem.run_bind, Sem.run_pure, Result.andThen_ok, List.map_toArray, List.map_cons, List.map_nil, hs, hx, hr]
  exact h a' cap w' h2 h3 h4
theorem step_appA (w : World) (hw : Region.wanted o (yielded ops a.tmps) = true) (H : Elem T e size bytes) (s x : Operand)
    (ho : o.op = .call { callee := .builtin .append, args := #[s, x], argTypes := #[T, T] })
    (base : Nat) (v : Value) (n : Nat) (xs : List Value) (hs : a.eval s = v) (hown : w.ownsRow base e size v n xs)
    (ad : Option Addr) (m c : Nat) (news : List Value) (hx : a.eval x = .slice ad m c) (hnews : Vals w ad news) (hl : news.length = m * size) (h1 : ∀ u ∈ news, u.oneCell' = true)
    (had : ad = none → m = 0 ∧ c = 0) (hnm : n + m ≤ 2000000) (hbase : base ≤ w.heap.size) (N : Nat) (hN : n + m = N) (ys : List Value) (hys : xs ++ news = ys)
    (h : ∀ a' cap w', w'.ownsRow base e size (.slice a' N cap) N ys → w.grownBy w' v.ownBlock → ((Value.slice a' N cap).ownBlock = v.ownBlock ∨ (Value.slice a' N cap).ownBlock = some w.heap.size) → K (a.put o.dst (.slice a' N cap)) w') :
    if Region.wanted o (yielded ops a.tmps) = true then Oper.wp Try.prog o a w K Q else E := by
  rw [if_pos hw]
  exact wp_appA w H s x ho base v n xs hs hown ad m c news hx hnews hl h1 had hnm hbase N hN ys hys h
theorem wpl_appA (w : World) (hgd : o.guard = none) (H : Elem T e size bytes) (s x : Operand)
    (ho : o.op = .call { callee := .builtin .append, args := #[s, x], argTypes := #[T, T] })
    (base : Nat) (v : Value) (n : Nat) (xs : List Value) (hs : a.eval s = v) (hown : w.ownsRow base e size v n xs)
    (ad : Option Addr) (m c : Nat) (news : List Value) (hx : a.eval x = .slice ad m c) (hnews : Vals w ad news) (hl : news.length = m * size) (h1 : ∀ u ∈ news, u.oneCell' = true)
    (had : ad = none → m = 0 ∧ c = 0) (hnm : n + m ≤ 2000000) (hbase : base ≤ w.heap.size) (N : Nat) (hN : n + m = N) (ys : List Value) (hys : xs ++ news = ys)
    (h : ∀ a' cap w', w'.ownsRow base e size (.slice a' N cap) N ys → w.grownBy w' v.ownBlock → ((Value.slice a' N cap).ownBlock = v.ownBlock ∨ (Value.slice a' N cap).ownBlock = some w.heap.size) → wpList Try.prog ops Q rest (a.put o.dst (.slice a' N cap)) w') :
    wpList Try.prog ops Q (o :: rest) a w :=
  wpList_plain hgd fun _ hK => wp_appA w H s x ho base v n xs hs hown ad m c news hx hnews hl h1 had hnm hbase N hN ys hys fun a' cap w' h2 h3 h4 => hK _ _ (h a' cap w' h2 h3 h4)
end
theorem ints_one (xs : List Int) : ∀ u ∈ xs.map (Value.int .i64), u.oneCell' = true := by
  intro u hu
  obtain ⟨k, _, rfl⟩ := List.mem_map.1 hu
  rfl
/-- What has turned only an owned row of the call's own has turned nothing that was there. -/
theorem gb_new {w0 w1 w2 : World} {r : Option Nat} (h : w0.grownBy w1 none) (k : w1.grownBy w2 r) (hr : ∀ b, r = some b → w0.heap.size ≤ b) : w0.grownBy w2 none :=
  ⟨k.os.trans h.os, k.tape.trans h.tape, k.output.trans h.output, Nat.le_trans h.size k.size, fun i hi hn => (k.block i (Nat.lt_of_lt_of_le hi h.size) (by
    intro e
    have := hr i e.symm
    omega)).trans (h.block i hi hn)⟩
end Go.Proofs.Ytdkdfehlmphikaa
