/- What the reference's Receive hands back; what stands behind a number that was put in. No condition. -/
import Derived.Test.YtalalapjanckdaaRcvT
namespace Go.Proofs.Ytalalapjanckdaa
open Go.RowKit
theorem own_fresh {w : World} {base n cap : Nat} {e : TypeId} {size : Nat} {a : Option Addr} {vs : List Value} (h : w.ownsRow base e size (.slice a n cap) n vs) : ∀ q, a = some q → base ≤ q.block := by
  intro q hq
  subst hq
  rcases h.2 with ⟨h1, _⟩ | ⟨g', c, cur, h1, hb, _⟩
  · injection h1 with h1; cases h1
  · injection h1 with h1 _ _
    injection h1 with h1
    subst h1
    exact hb
/-- A receiver, numbers and a bool are handed back; nothing that was there has turned. -/
def RetRs (w : World) (v : Int × Int × List Int × List Int × Bool) (e : Ending) (w' : World) : Prop :=
  ∃ (a : Option Addr) (c : Nat) (b : Option Addr) (d : Nat), e = .returned (.tuple #[.agg #[.int .i64 v.1, .int .i64 v.2.1, .slice a v.2.2.1.length c], .slice b v.2.2.2.1.length d, .bool v.2.2.2.2]) ∧
    Ints w' a v.2.2.1 ∧ Ints w' b v.2.2.2.1 ∧ (a = none → v.2.2.1.length = 0 ∧ c = 0) ∧ (b = none → v.2.2.2.1.length = 0 ∧ d = 0) ∧ (∀ q, a = some q → w.heap.size ≤ q.block) ∧ (v.2.2.2.1 = [] ∨ ∀ q, b = some q → w.heap.size ≤ q.block) ∧ Below w.heap.size w w'
theorem RetRc.rs {w w' : World} {v : Int × Int × List Int × List Int × Bool} {e : Ending} (h : RetRc w v e w') : RetRs w v e w' := by
  obtain ⟨a, c, b, d, he, h1, h2, -, h4⟩ := h
  exact ⟨a, c, b, d, he, (own_ints h1).1, (own_ints h2).1, own_none h1, own_none h2, own_fresh h1, .inr (own_fresh h2), h4⟩
theorem Ints.kept {w w' : World} {a : Option Addr} {xs : List Int} {r : Option Nat} (h : Ints w a xs) (hg : w.grownBy w' r) (hne : ∀ p, a = some p → some p.block ≠ r) : Ints w' a xs := by
  rcases h with h | ⟨b, off, ha, hb, hc⟩
  · exact .inl h
  · exact .inr ⟨b, off, ha, Nat.lt_of_lt_of_le hb hg.size, fun i hi => (World.cell?_of_block (hg.block b hb (hne _ ha))).trans (hc i hi)⟩
theorem Ints.takeW {w : World} {b off : Nat} {xs : List Int} (h : Ints w (some ⟨b, off, none⟩) xs) (k : Nat) : Ints w (some ⟨b, off, none⟩) (xs.take k) := by
  rcases h with h | ⟨b', off', ha, hb, hc⟩
  · exact .inl (by rw [h]; simp)
  · refine .inr ⟨b', off', ha, hb, fun i hi => ?_⟩
    rw [List.length_take] at hi
    rw [hc i (by omega), List.getD_eq_getElem?_getD, List.getD_eq_getElem?_getD, List.getElem?_take, if_pos (by omega)]
theorem Ints.dropW {w : World} {b : Nat} {xs : List Int} (h : Ints w (some ⟨b, 0, none⟩) xs) (k : Nat) : Ints w (some ⟨b, k, none⟩) (xs.drop k) := by
  rcases h with h | ⟨b', off', ha, hb, hc⟩
  · exact .inl (by rw [h]; simp)
  · cases ha
    refine .inr ⟨b, k, rfl, hb, fun i hi => ?_⟩
    rw [List.length_drop] at hi
    have := hc (k + i) (by omega)
    rw [Nat.zero_add] at this
    rw [this, List.getD_eq_getElem?_getD, List.getD_eq_getElem?_getD, List.getElem?_drop]
theorem row_drewN {w : World} {base n : Nat} {e : TypeId} {size : Nat} {v : Value} {vs : List Value} (h : w.ownsRow base e size v n vs) (q : Nat) : (w.drewN q).ownsRow base e size v n vs := h
theorem ints_drewN {w : World} {a : Option Addr} {xs : List Int} (h : Ints w a xs) (q : Nat) : Ints (w.drewN q) a xs := h
/-- What is handed back where a number was put in. -/
def insRes (N R : Int) (xs hs : List Int) (L : Nat) : Int × Int × List Int × List Int × Bool :=
  if 100000 < N + (L : Int) then (N, R, xs, [], false) else (N + (L : Int), R, hs.drop L, upFrom N L, true)
theorem insRes_far {N R : Int} {xs hs : List Int} {L : Nat} (h : 100000 < N + (L : Int)) : insRes N R xs hs L = (N, R, xs, [], false) := if_pos h
theorem insRes_on {N R : Int} {xs hs : List Int} {L : Nat} (h : ¬ 100000 < N + (L : Int)) : insRes N R xs hs L = (N + (L : Int), R, hs.drop L, upFrom N L, true) := if_neg h
/-- What stands behind a number that was put in. -/
def YRel (N R : Int) (xs : List Int) (x : Int) (n k gx : Nat) (W : World) (v : Value) (wx : World) : Prop :=
  v = .int .i64 (k : Int) ∧ ∃ (g3 c3 : Nat), Box wx gx 52 [.int .i64 N, .int .i64 R, .slice (some ⟨g3, 0, none⟩) (n + 1) c3] ∧ Ints wx (some ⟨g3, 0, none⟩) (insV xs k x) ∧ W.heap.size ≤ g3 ∧ g3 < wx.heap.size ∧ n + 1 ≤ c3 ∧ W.grownBy wx (some gx)
/-- What the loop that hands numbers on keeps. -/
def ZRel (N R : Int) (hs : List Int) (n1 L gx G : Nat) (W : World) (v : Value) (wr : World) : Prop :=
  ∃ (j m b bc : Nat) (aa : Addr) (cc : Nat), j ≤ L ∧ m + j = n1 ∧ v = .slice (some ⟨b, 0, none⟩) j bc ∧ wr.ownsRow G 3 1 (.slice (some ⟨b, 0, none⟩) j bc) j ((upFrom N j).map (Value.int .i64)) ∧
    Box wr gx 52 [.int .i64 (N + (j : Int)), .int .i64 R, .slice (some aa) m cc] ∧ Ints wr (some aa) (hs.drop j) ∧ aa.block ≠ b ∧ aa.block ≠ gx ∧ aa.block < wr.heap.size ∧ G ≤ aa.block ∧ b ≠ gx ∧ m ≤ cc ∧ Below G W wr
/-- What stands where too much was handed on: a copy of the receiver as it was, and no number. -/
def FRel (N R : Int) (xs : List Int) (n g1 : Nat) (w : World) (s5 s6 : Value) (wx : World) : Prop :=
  ∃ (q2 : Nat) (a7 : Option Addr) (c7 : Nat), s5 = .slice (some ⟨q2, 0, none⟩) 0 0 ∧ s6 = .bool false ∧ Box wx g1 52 [.int .i64 N, .int .i64 R, .slice a7 n c7] ∧ Ints wx a7 xs ∧ (a7 = none → n = 0 ∧ c7 = 0) ∧ (∀ q, a7 = some q → w.heap.size ≤ q.block) ∧ Below w.heap.size w wx
theorem own_blk {w : World} {base n cap : Nat} {e : TypeId} {size : Nat} {a : Option Addr} {vs : List Value} (h : w.ownsRow base e size (.slice a n cap) n vs) {g : Nat} (hg : g < base) : ∀ q, a = some q → q.block ≠ g := by
  intro q hq
  subst hq
  rcases h.2 with ⟨h1, _⟩ | ⟨g', c, cur, h1, hb, _⟩
  · injection h1 with h1; cases h1
  · injection h1 with h1 _ _
    injection h1 with h1
    subst h1
    simp; omega
def lenOfW : Value → Nat
  | .slice _ n _ => n
  | _ => 0
theorem upFrom_succW (N : Int) (k : Nat) : upFrom N (k + 1) = upFrom N k ++ [N + (k : Int)] := by
  simp [upFrom, List.range_succ]
theorem drop_getW (xs : List Int) (k : Nat) : (xs.drop k).getD 0 0 = xs.getD k 0 := by
  rw [List.getD_eq_getElem?_getD, List.getElem?_drop, List.getD_eq_getElem?_getD, Nat.add_zero]
theorem drop_get1W (xs : List Int) (k j : Nat) : (xs.drop (k + 1)).getD j 0 = (xs.drop k).getD (j + 1) 0 := by
  rw [List.getD_eq_getElem?_getD, List.getElem?_drop, List.getD_eq_getElem?_getD, List.getElem?_drop, show k + 1 + j = k + (j + 1) by omega]
theorem keepS1 {w : World} {b i g : Nat} {v u0 : Value} {j : Nat} (h : w.cell? ⟨b, i, none⟩ = some v) (hb : b ≠ g) : (w.setCell ⟨g, j, none⟩ u0).cell? ⟨b, i, none⟩ = some v :=
  (World.cell?_of_block (Below.heap_setCell _ ⟨g, j, none⟩ u0 b hb)).trans h
end Go.Proofs.Ytalalapjanckdaa
