/- Contracts of markIntS and heldIntS: a list of the call's own is marked, and read again. No condition but the bounds that each states. -/
import Derived.Test.YtalalapjanckdaaBox
namespace Go.Proofs.Ytalalapjanckdaa
open Go.RowKit
/-- k, k + 1, .. : n numbers. -/
def upFrom (k : Int) (n : Nat) : List Int := (List.range n).map fun (j : Nat) => k + (j : Int)
theorem upFrom_len (k : Int) (n : Nat) : (upFrom k n).length = n := by simp [upFrom]
theorem upFrom_get (k : Int) (n j : Nat) (h : j < n) : (upFrom k n).getD j 0 = k + (j : Int) := by
  simp [upFrom, List.getD_eq_getElem?_getD, h]
/-- The list is marked: it holds k, k + 1, ..; besides it nothing that was there has turned. -/
def RetMark (w : World) (base g n cap : Nat) (k : Int) (e : Ending) (w' : World) : Prop :=
  e = .returned (.int .i64 (k + (n : Int))) ∧ w'.ownsRow base 3 1 (.slice (some ⟨g, 0, none⟩) n cap) n ((upFrom k n).map (Value.int .i64)) ∧ w.grownBy w' (some g)
theorem grownBy.trans' {a b c : World} {r : Option Nat} (h : a.grownBy b r) (k : b.grownBy c r) : a.grownBy c r :=
  ⟨k.os.trans h.os, k.tape.trans h.tape, k.output.trans h.output, Nat.le_trans h.size k.size, fun i hi hr => (k.block i (Nat.lt_of_lt_of_le hi h.size) hr).trans (h.block i hi hr)⟩
theorem grownBy.rfl' (a : World) (r : Option Nat) : a.grownBy a r := ⟨rfl, rfl, rfl, Nat.le_refl _, fun _ _ _ => rfl⟩
set_option maxHeartbeats 400000 in
theorem c_markIntS (base g n cap : Nat) (k : Int) (xs : List Int) (w : World) (hn : n ≤ 1048576) (hk0 : 0 ≤ k) (hk : k ≤ 1000000000) (h : w.ownsRow base 3 1 (.slice (some ⟨g, 0, none⟩) n cap) n (xs.map (Value.int .i64))) :
    Calls Try.prog 39 #[.slice (some ⟨g, 0, none⟩) n cap, .int .i64 k] w (RetMark w base g n cap k) := by
  have HO := Lib.hid h
  clear h
  go_enter Try.func39, Try.ntmps39
  go_wp2
  go_loopw [1, 5] (fun q i wr => ∃ (j : Nat) (C : List Value), j ≤ n ∧ i = .int .i64 j ∧ q = .int .i64 (k + (j : Int)) ∧ C.length = n ∧ (∀ t, t < j → C[t]? = some (.int .i64 (k + (t : Int)))) ∧ wr.ownsRow base 3 1 (.slice (some ⟨g, 0, none⟩) n cap) n C ∧ w.grownBy wr (some g)) (fun _ i _ => n - (intOf i).toNat)
  case atStart => exact ⟨0, _, Nat.zero_le _, rfl, by simp, by have := HO.out.1; simpa using this, fun j hj => by omega, HO.out, grownBy.rfl' _ _⟩
  case round =>
    obtain ⟨j, C, hj, rfl, rfl, hC, hCk, hown, hgr⟩ := hrel
    have HO' := Lib.hid hown
    have HG := Lib.hid hgr
    have HK := Lib.hid hCk
    have HC := Lib.hid hC
    clear hown hgr hCk hC
    by_cases hlt : j < n
    · have hc2 := HO'.out.cellAt j (by omega)
      have hc3 := HO'.out.frozenAt j
      have hc4 : C[j]? = some (C[j]'(by have := HC.out; omega)) := List.getElem?_eq_getElem _
      rw [hc4] at hc2
      have hst := HO'.out.stored j (.int .i64 (k + (j : Int)))
      have HS := Lib.hid hst.1
      have HS2 := Lib.hid hst.2
      generalize C[j]'(by have := HC.out; omega) = cv at hc2 hc4
      clear hc4 hst
      go_wp2
      go_roundw
      case rel =>
        refine ⟨j + 1, C.set j (.int .i64 (k + (j : Int))), by omega, by go_num, by go_num, by simp [HC.out], fun t ht => ?_, HS.out, grownBy.trans' HG.out HS2.out⟩
        by_cases htj : t = j
        · subst htj; rw [List.getElem?_set_self (by rw [HC.out]; omega)]
        · rw [List.getElem?_set_ne (by omega)]; exact HK.out t (by omega)
      case measure => simp [intOf]; omega
    · obtain rfl : j = n := by omega
      go_wp2
      go_ret
      refine ⟨rfl, ?_, HG.out⟩
      have e : C = (upFrom k j).map (Value.int .i64) := cells_eq (by rw [HC.out, upFrom_len]) (fun t ht => by rw [upFrom_len] at ht; rw [upFrom_get k j t ht]; exact HK.out t ht)
      rw [← e]
      exact HO'.out
set_option maxHeartbeats 400000 in
theorem c_heldIntS (a : Option Addr) (n cap : Nat) (k : Int) (w : World) (hn : n ≤ 1048576) (hk0 : 0 ≤ k) (hk : k ≤ 1000000000) (h : Ints w a (upFrom k n)) :
    Calls Try.prog 41 #[.slice a n cap, .int .i64 k] w fun e w' => e = .returned (.int .i64 (k + (n : Int))) ∧ w = w' := by
  have HI := Lib.hid h
  clear h
  go_enter Try.func41, Try.ntmps41
  go_wp2
  go_loop [1, 5] (fun q i => ∃ (j : Nat), j ≤ n ∧ i = .int .i64 j ∧ q = .int .i64 (k + (j : Int))) (fun _ i => n - (intOf i).toNat)
  case atStart => exact ⟨0, Nat.zero_le _, rfl, by simp⟩
  case round =>
    obtain ⟨j, hj, rfl, rfl⟩ := hrel
    by_cases hlt : j < n
    · rcases HI.out with h0 | ⟨b, off, ha, hb, hcell⟩
      · have := congrArg List.length h0; rw [upFrom_len] at this; simp at this; omega
      · have hc1 := hcell j (by rw [upFrom_len]; exact hlt)
        rw [upFrom_get k n j hlt] at hc1
        subst ha
        clear hcell
        go_wp2
        go_round
        case rel => exact ⟨j + 1, by omega, by go_num, by go_num⟩
        case measure => simp [intOf]; omega
    · obtain rfl : j = n := by omega
      go_wp2
      go_ret
      exact ⟨rfl, rfl⟩
end Go.Proofs.Ytalalapjanckdaa
