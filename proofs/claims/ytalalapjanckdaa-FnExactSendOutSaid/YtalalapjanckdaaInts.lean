/- Contracts of the verifier's small functions over lists of ints: toIntS, eqIntS, markIntS, heldIntS. No condition but the bounds that each states. -/
import Derived.Test.YtalalapjanckdaaRows
import Derived.WalkKit
import Derived.ProofKit
import Derived.OpenShut
import Derived.ShutString
import Derived.Below
import Derived.Lib.Hide
import Derived.Outline
import Derived.Handy
import Derived.WalkSpells
import Derived.WalkLawsBesides
import Derived.OwnWalk
import Derived.BigQuiet
import Derived.Deep.QuietTactic
namespace Go.Proofs.Ytalalapjanckdaa
open Go.RowKit
/-- a leads to cells that read as the numbers xs (nothing is said where there are none). -/
def Ints (w : World) (a : Option Addr) (xs : List Int) : Prop :=
  xs = [] ∨ ∃ b off, a = some ⟨b, off, none⟩ ∧ b < w.heap.size ∧ ∀ i, i < xs.length → w.cell? ⟨b, off + i, none⟩ = some (.int .i64 (xs.getD i 0))
theorem Ints.below {w w' : World} {a : Option Addr} {xs : List Int} (h : Ints w a xs) (hb : Below w.heap.size w w') : Ints w' a xs := by
  rcases h with h | ⟨b, off, ha, hlt, hc⟩
  · exact .inl h
  · exact .inr ⟨b, off, ha, Nat.lt_of_lt_of_le hlt hb.size, fun i hi => (hb.cell (p := ⟨b, off + i, none⟩) hlt).trans (hc i hi)⟩
theorem Ints.belowB {B : Nat} {w w' : World} {a : Option Addr} {xs : List Int} (h : Ints w a xs) (hb : Below B w w') (hB : ∀ x, a = some x → x.block < B) : Ints w' a xs := by
  rcases h with h | ⟨b, off, ha, hlt, hc⟩
  · exact .inl h
  · exact .inr ⟨b, off, ha, Nat.lt_of_lt_of_le hlt hb.size, fun i hi => (hb.cell (p := ⟨b, off + i, none⟩) (hB ⟨b, off, none⟩ ha)).trans (hc i hi)⟩
theorem ownsRow.ints {w : World} {base e g n cap : Nat} {xs : List Int} (h : w.ownsRow base e 1 (.slice (some ⟨g, 0, none⟩) n cap) n (xs.map (Value.int .i64))) : Ints w (some ⟨g, 0, none⟩) xs := by
  have hl : xs.length = n := by have := h.1; simpa using this
  refine .inr ⟨g, 0, rfl, ?_, fun i hi => ?_⟩
  · exact (h.lt g rfl).2
  · have := h.cellAt i (by omega)
    rw [Nat.zero_add, this, List.getElem?_map, List.getElem?_eq_getElem hi, Option.map_some, List.getD_eq_getElem?_getD, List.getElem?_eq_getElem hi]
    rfl
theorem getD_of_lt {xs : List Int} {i : Nat} (h : i < xs.length) : xs[i]? = some (xs.getD i 0) := by
  rw [List.getD_eq_getElem?_getD, List.getElem?_eq_getElem h]; rfl
/-- A list of cells that reads number by number as xs is xs. -/
theorem cells_eq {C : List Value} {xs : List Int} (hl : C.length = xs.length) (h : ∀ j, j < xs.length → C[j]? = some (.int .i64 (xs.getD j 0))) : C = xs.map (Value.int .i64) := by
  apply List.ext_getElem?
  intro j
  by_cases hj : j < xs.length
  · rw [h j hj, List.getElem?_map, getD_of_lt hj]; rfl
  · rw [List.getElem?_eq_none (by omega), List.getElem?_eq_none (by simp; omega)]
/-- The answer is a new list of the numbers xs; nothing that was there has turned. -/
def RetInts (w : World) (n : Nat) (xs : List Int) (e : Ending) (w' : World) : Prop :=
  ∃ g, e = .returned (.slice (some ⟨g, 0, none⟩) n n) ∧ w'.ownsRow w.heap.size 3 1 (.slice (some ⟨g, 0, none⟩) n n) n (xs.map (Value.int .i64)) ∧ w.grownBy w' none
theorem grown_below {w w' : World} (h : w.grownBy w' none) : Below w.heap.size w w' := (Below.refl _ w).grown h (Nat.le_refl _) (fun _ h => by cases h)
theorem below_grown {w w' : World} (h : Below w.heap.size w w') : w.grownBy w' none := ⟨h.os, h.tape, h.output, h.size, fun k hk _ => h.block k hk⟩
theorem infoInt : (Try.prog.info? 3).map (fun i => (i.zero, i.size, i.bytes)) = some (some (.int .i64 0), 1, 8) := by kernel_rfl

set_option maxHeartbeats 400000 in
theorem c_toIntS (a : Option Addr) (n cap : Nat) (xs : List Int) (w : World) (hxs : xs.length = n) (hn : n ≤ 1048576) (h : Ints w a xs) :
    Calls Try.prog 45 #[.slice a n cap] w (RetInts w n xs) := by
  obtain ⟨i0, hi, hz0, hz1, hz2⟩ := info_parts infoInt
  have HX := Lib.hid hxs
  have HI := Lib.hid h
  clear h hxs
  go_enter Try.func45, Try.ntmps45
  go_wp2_with (at_make; refine wpList_make_full _ rfl _ _ 50 rfl w.heap.size 3 i0 (.int .i64 0) 1 Try.underlying50 hi hz0 hz1 .i64 .i64 _ _ n rfl rfl rfl rfl ?c1 ?c2 ?c3 ?c4)
  case c1 => rw [hz2]; omega
  case c2 => unfold maxLen; omega
  case c3 => exact Nat.le_refl _
  case c4 =>
    intro w1 hown hgr
    have HO := Lib.hid hown
    have HG := Lib.hid hgr
    clear hown hgr
    go_wp2
    go_loopw [4] (fun i wr => ∃ (k : Nat) (C : List Value), k ≤ n ∧ i = .int .i64 k ∧ C.length = n ∧ (∀ j, j < k → C[j]? = some (.int .i64 (xs.getD j 0))) ∧ wr.ownsRow w.heap.size 3 1 (.slice (some ⟨w.heap.size, 0, none⟩) n n) n C ∧ Below w.heap.size w wr) (fun i _ => n - (intOf i).toNat)
    case atStart => exact ⟨0, _, Nat.zero_le _, rfl, by have := HO.out.1; simpa using this, fun j hj => by omega, HO.out, grown_below HG.out⟩
    case round =>
      obtain ⟨k, C, hk, rfl, hC, hCk, hown, hgr⟩ := hrel
      have HO := Lib.hid hown
      have HG := Lib.hid hgr
      have HK := Lib.hid hCk
      have HC := Lib.hid hC
      clear hown hgr hCk hC
      by_cases hlt : k < n
      · have hsrc := HI.out.below HG.out
        rcases hsrc with h0 | ⟨b, off, ha, hb, hcell⟩
        · have := HX.out; rw [h0] at this; simp at this; omega
        · have hc1 := hcell k (by have := HX.out; omega)
          have hc2 := HO.out.cellAt k (by omega)
          have hc3 := HO.out.frozenAt k
          have hc4 : C[k]? = some (C[k]'(by have := HC.out; omega)) := List.getElem?_eq_getElem _
          rw [hc4] at hc2
          have hst := Lib.hid (HO.out.stored k (.int .i64 (xs.getD k 0))).1
          subst ha
          clear hcell
          generalize C[k]'(by have := HC.out; omega) = cv at hc2 hc4
          clear hc4
          go_wp2
          go_roundw
          case rel =>
            refine ⟨k + 1, C.set k (.int .i64 (xs.getD k 0)), by omega, by go_num, by simp [HC.out], fun j hj => ?_, hst.out, HG.out.setCell (by simp) _⟩
            by_cases hjk : j = k
            · subst hjk; rw [List.getElem?_set_self (by rw [HC.out]; omega)]
            · rw [List.getElem?_set_ne (by omega)]; exact HK.out j (by omega)
          case measure => simp [intOf]; omega
      · go_wp2
        go_ret
        have hkn : k = n := by omega
        subst hkn
        have hx := HX.out
        subst hx
        refine ⟨w.heap.size, rfl, ?_, below_grown HG.out⟩
        have := HO.out
        rw [cells_eq HC.out HK.out] at this
        exact this
/-- What the walk is told of a slice of integers that came in. -/
def IsRow (k : IntKind) (w : World) (a : Option Addr) (len cap : Nat) (zs : List Int) : Prop :=
  (a = none ∧ len = 0 ∧ cap = 0 ∧ zs = []) ∨
  ∃ x, a = some x ∧ len ≤ cap ∧ cap ≤ maxLen ∧ zs.length = cap ∧ (∀ i, i < zs.length → w.cell? (x.add i) = some (.int k (zs.getD i 0))) ∧ ∀ n ∈ zs, (Lit.int k n).wf = true
theorem IsRow.ints {w : World} {a : Option Addr} {len cap : Nat} {zs : List Int} (h : IsRow .i64 w a len cap zs) : Ints w a (zs.take len) ∧ (zs.take len).length = len := by
  rcases h with ⟨rfl, rfl, rfl, rfl⟩ | ⟨⟨b, off, spot⟩, rfl, hl, hm, hz, hc, _⟩
  · exact ⟨.inl rfl, rfl⟩
  · have hlen : (zs.take len).length = len := by rw [List.length_take]; omega
    refine ⟨?_, hlen⟩
    by_cases h0 : len = 0
    · subst h0; exact .inl (by simp)
    · have h1 := hc 0 (by omega)
      have hs : spot = none := by simpa [Addr.add] using World.cell?_spot h1
      subst hs
      refine .inr ⟨b, off, rfl, World.block_lt_of_cell? w _ h1, fun i hi => ?_⟩
      rw [hlen] at hi
      have h2 := hc i (by omega)
      have e : (zs.take len).getD i 0 = zs.getD i 0 := by rw [List.getD_eq_getElem?_getD, List.getD_eq_getElem?_getD, List.getElem?_take, if_pos hi]
      have ea : (⟨b, off, none⟩ : Addr).add i = ⟨b, off + i, none⟩ := by
        unfold Addr.add
        split
        · rename_i hi0; subst hi0; rfl
        · rfl
      rw [e, ← ea]
      exact h2
/-- Two lists that read as the same numbers are equal. -/
theorem c_eqIntS (a b : Option Addr) (n ca cb : Nat) (xs : List Int) (w : World) (hxs : xs.length = n) (hn : n ≤ 1048576) (ha : Ints w a xs) (hb : Ints w b xs) :
    Calls Try.prog 37 #[.slice a n ca, .slice b n cb] w fun e w' => e = .returned (.bool true) ∧ Below w.heap.size w w' := by
  have HX := Lib.hid hxs
  have HA := Lib.hid ha
  have HB := Lib.hid hb
  clear hxs ha hb
  go_enter Try.func37, Try.ntmps37
  go_wp2
  go_loopw [5] (fun i wr => ∃ (k : Nat), k ≤ n ∧ i = .int .i64 k ∧ Below w.heap.size w wr) (fun i _ => n - (intOf i).toNat)
  case atStart => exact ⟨0, Nat.zero_le _, rfl, Below.refl _ _⟩
  case round =>
    obtain ⟨k, hk, rfl, hG⟩ := hrel
    have HG := Lib.hid hG
    clear hG
    by_cases hlt : k < n
    · rcases HA.out.below HG.out with h0 | ⟨b1, off1, ha, _, hcell1⟩
      · have := HX.out; rw [h0] at this; simp at this; omega
      · rcases HB.out.below HG.out with h0 | ⟨b2, off2, hb, _, hcell2⟩
        · have := HX.out; rw [h0] at this; simp at this; omega
        · have hc1 := hcell1 k (by have := HX.out; omega)
          have hc2 := hcell2 k (by have := HX.out; omega)
          subst ha hb
          clear hcell1 hcell2
          go_wp2
          go_quiet (fail)
          go_wp2
          go_roundw
          case rel => exact ⟨k + 1, by omega, by go_num, below_drewN HG.out _⟩
          case measure => simp [intOf]; omega
    · go_wp2
      go_ret
      exact ⟨rfl, HG.out⟩
end Go.Proofs.Ytalalapjanckdaa
