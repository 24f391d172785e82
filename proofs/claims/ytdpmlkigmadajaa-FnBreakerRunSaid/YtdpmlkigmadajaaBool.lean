/- Contracts of the verifier's small functions over lists of bools: eqBoolS, markBoolS, heldBoolS. No condition but the bounds that each states. -/
import Derived.Test.YtdpmlkigmadajaaRow
namespace Go.Proofs.Ytdpmlkigmadajaa
open Go.RowKit
def bools (bs : List Bool) : List Value := bs.map Value.bool
theorem bools_get {bs : List Bool} {k : Nat} (h : k < bs.length) : (bools bs)[k]? = some (.bool (bs.getD k false)) := by
  simp [bools, List.getElem?_map, List.getElem?_eq_getElem h]
theorem Vals.bool {w : World} {a : Option Addr} {bs : List Bool} {n : Nat} (h : Vals w a (bools bs)) (hl : bs.length = n) {k : Nat} (hk : k < n) : ∃ b off, a = some ⟨b, off, none⟩ ∧ b < w.heap.size ∧ w.cell? ⟨b, off + k, none⟩ = some (.bool (bs.getD k false)) := by
  rcases h with h | ⟨b, off, ha, hlt, hc⟩
  · rw [bools, List.map_eq_nil_iff] at h; subst h; simp at hl; omega
  · exact ⟨b, off, ha, hlt, hc k _ (bools_get (by omega))⟩
theorem c_eqBoolS (a b : Option Addr) (n ca cb : Nat) (bs : List Bool) (w : World) (hbs : bs.length = n) (hn : n ≤ 1048576) (ha : Vals w a (bools bs)) (hb : Vals w b (bools bs)) :
    Calls Try.prog 31 #[.slice a n ca, .slice b n cb] w fun e w' => e = .returned (.bool true) ∧ Below w.heap.size w w' := by
  have HX := Lib.hid hbs
  have HA := Lib.hid ha
  have HB := Lib.hid hb
  clear hbs ha hb
  go_enter Try.func31, Try.ntmps31
  go_wp2
  go_loopw [5] (fun i wr => ∃ (k : Nat), k ≤ n ∧ i = .int .i64 k ∧ Below w.heap.size w wr) (fun i _ => n - (intOf i).toNat)
  case atStart => exact ⟨0, Nat.zero_le _, rfl, Below.refl _ _⟩
  case round =>
    obtain ⟨k, hk, rfl, hG⟩ := hrel
    have HG := Lib.hid hG
    clear hG
    by_cases hlt : k < n
    · obtain ⟨b1, o1, rfl, _, hc1⟩ := (HA.out.below HG.out).bool HX.out hlt
      obtain ⟨b2, o2, rfl, _, hc2⟩ := (HB.out.below HG.out).bool HX.out hlt
      generalize bs.getD k false = v at *
      go_wp2
      go_quiet (fail)
      go_wp2
      go_roundw
      case rel => exact ⟨k + 1, by omega, by go_num, below_drewN HG.out _⟩
      case measure => simp [intOf]; omega
    · go_wp2
      go_ret
      exact ⟨rfl, HG.out⟩
/-- The marks of n bools from k on. -/
def markB (k : Int) (n : Nat) : List Bool := (List.range n).map fun (j : Nat) => ((k + (j : Int)) % 3 == 0)
theorem markB_len (k : Int) (n : Nat) : (markB k n).length = n := by simp [markB]
theorem markB_get (k : Int) (n j : Nat) (h : j < n) : (markB k n).getD j false = ((k + (j : Int)) % 3 == 0) := by
  simp [markB, List.getD_eq_getElem?_getD, h]
theorem cells_eqB {C : List Value} {bs : List Bool} (hl : C.length = bs.length) (h : ∀ j, j < bs.length → C[j]? = some (.bool (bs.getD j false))) : C = bools bs := by
  apply List.ext_getElem?
  intro j
  by_cases hj : j < bs.length
  · rw [h j hj, bools_get hj]
  · rw [List.getElem?_eq_none (by omega), List.getElem?_eq_none (by simp [bools]; omega)]
set_option maxHeartbeats 400000 in
theorem c_markBoolS' (base g n cap : Nat) (k : Int) (vs : List Value) (w : World) (hn : n ≤ 1048576) (hk0 : 0 ≤ k) (hk : k ≤ 1000000000) (h : w.ownsRow base 4 1 (.slice (some ⟨g, 0, none⟩) n cap) n vs) :
    Calls Try.prog 34 #[.slice (some ⟨g, 0, none⟩) n cap, .int .i64 k] w fun e w' => e = .returned (.int .i64 (k + (n : Int))) ∧
      w'.ownsRow base 4 1 (.slice (some ⟨g, 0, none⟩) n cap) n (bools (markB k n)) ∧ w.grownBy w' (some g) := by
  have HO := Lib.hid h
  clear h
  go_enter Try.func34, Try.ntmps34
  go_wp2
  go_loopw [1, 5] (fun q i wr => ∃ (j : Nat) (C : List Value), j ≤ n ∧ i = .int .i64 j ∧ q = .int .i64 (k + (j : Int)) ∧ C.length = n ∧ (∀ t, t < j → C[t]? = some (.bool ((k + (t : Int)) % 3 == 0))) ∧ wr.ownsRow base 4 1 (.slice (some ⟨g, 0, none⟩) n cap) n C ∧ w.grownBy wr (some g)) (fun _ i _ => n - (intOf i).toNat)
  case atStart => exact ⟨0, _, Nat.zero_le _, rfl, by simp, by have := HO.out.1; simpa using this, fun j hj => by omega, HO.out, grownBy_rfl _ _⟩
  case round =>
    obtain ⟨j, C, hj, rfl, rfl, hC, hCk, hown, hgr⟩ := hrel
    have HO' := Lib.hid hown
    have HG := Lib.hid hgr
    have HK := Lib.hid hCk
    have HC := Lib.hid hC
    clear hown hgr hCk hC
    by_cases hlt : j < n
    · have hc2 := HO'.out.cellAt j (by omega)
      have hc3 := HO'.out.frozenAt j
      have hc4 : C[j]? = some (C[j]'(by have := HC.out; omega)) := List.getElem?_eq_getElem _
      rw [hc4] at hc2
      have hst := HO'.out.stored j (.bool ((k + (j : Int)) % 3 == 0))
      have HS := Lib.hid hst.1
      have HS2 := Lib.hid hst.2
      generalize C[j]'(by have := HC.out; omega) = cv at hc2 hc4
      clear hc4 hst
      go_wp2
      go_roundw
      case rel =>
        refine ⟨j + 1, C.set j (.bool ((k + (j : Int)) % 3 == 0)), by omega, by go_num, by go_num, by simp [HC.out], fun t ht => ?_, HS.out, grownBy_tr HG.out HS2.out⟩
        by_cases htj : t = j
        · subst htj; rw [List.getElem?_set_self (by rw [HC.out]; omega)]
        · rw [List.getElem?_set_ne (by omega)]; exact HK.out t (by omega)
      case measure => simp [intOf]; omega
    · obtain rfl : j = n := by omega
      go_wp2
      go_ret
      refine ⟨rfl, ?_, HG.out⟩
      have e : C = bools (markB k j) := cells_eqB (by rw [HC.out, markB_len]) (fun t ht => by rw [markB_len] at ht; rw [markB_get k j t ht]; exact HK.out t ht)
      rw [← e]
      exact HO'.out
theorem c_markBNil (k : Int) (w : World) :
    Calls Try.prog 34 #[.slice none 0 0, .int .i64 k] w fun e w' => e = .returned (.int .i64 k) ∧ w = w' := by
  go_enter Try.func34, Try.ntmps34
  go_wp2
  go_loop [1, 5] (fun q i => q = .int .i64 k ∧ i = .int .i64 0) (fun _ _ => 0)
  case atStart => exact ⟨rfl, rfl⟩
  case round =>
    obtain ⟨rfl, rfl⟩ := hrel
    go_wp2
    go_ret
    exact ⟨rfl, rfl⟩
theorem c_markBoolS (base n : Nat) (a : Option Addr) (cap : Nat) (k : Int) (vs : List Value) (w : World) (hn : n ≤ 1048576) (hk0 : 0 ≤ k) (hk : k ≤ 1000000000) (h : w.ownsRow base 4 1 (.slice a n cap) n vs) :
    Calls Try.prog 34 #[.slice a n cap, .int .i64 k] w fun e w' => e = .returned (.int .i64 (k + (n : Int))) ∧
      w'.ownsRow base 4 1 (.slice a n cap) n (bools (markB k n)) ∧ w.grownBy w' (Value.slice a n cap).ownBlock := by
  rcases h.2 with ⟨h1, h2⟩ | ⟨g, c, cur, h1, _⟩
  · injection h1 with h3 h4 h5
    subst h3 h4 h5
    refine (c_markBNil k w).mono ?_
    rintro e w' ⟨rfl, rfl⟩
    exact ⟨by simp, ⟨rfl, .inl ⟨rfl, rfl⟩⟩, World.grownBy.refl _ _⟩
  · injection h1 with h3 _ h5
    subst h3 h5
    refine (c_markBoolS' base g n cap k vs w hn hk0 hk h).mono ?_
    rintro e w' ⟨rfl, h1, h2⟩
    exact ⟨rfl, h1, h2⟩
set_option maxHeartbeats 400000 in
theorem c_heldBoolS (a : Option Addr) (n cap : Nat) (k : Int) (w : World) (hn : n ≤ 1048576) (hk0 : 0 ≤ k) (hk : k ≤ 1000000000) (h : Vals w a (bools (markB k n))) :
    Calls Try.prog 35 #[.slice a n cap, .int .i64 k] w fun e w' => e = .returned (.int .i64 (k + (n : Int))) ∧ w = w' := by
  have HI := Lib.hid h
  clear h
  go_enter Try.func35, Try.ntmps35
  go_wp2
  go_loop [1, 5] (fun q i => ∃ (j : Nat), j ≤ n ∧ i = .int .i64 j ∧ q = .int .i64 (k + (j : Int))) (fun _ i => n - (intOf i).toNat)
  case atStart => exact ⟨0, Nat.zero_le _, rfl, by simp⟩
  case round =>
    obtain ⟨j, hj, rfl, rfl⟩ := hrel
    by_cases hlt : j < n
    · obtain ⟨b1, o1, rfl, _, hc1⟩ := HI.out.bool (markB_len k n) hlt
      rw [markB_get k n j hlt] at hc1
      go_wp2
      go_round
      case rel => exact ⟨j + 1, by omega, by go_num, by go_num⟩
      case measure => simp [intOf]; omega
    · obtain rfl : j = n := by omega
      go_wp2
      go_ret
      exact ⟨rfl, rfl⟩
end Go.Proofs.Ytdpmlkigmadajaa
