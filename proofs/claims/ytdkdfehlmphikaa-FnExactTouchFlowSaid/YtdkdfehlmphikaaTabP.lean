/- Where a flow stands in a table: l9Place of the reference. No condition but lists of at most 2^20 entries. -/
import Derived.Test.YtdkdfehlmphikaaTab
import Derived.Test.YtdkdfehlmphikaaFeq
namespace Go.Proofs.Ytdkdfehlmphikaa
open Go.RowKit
/-- The place of a flow, or -1. -/
def pOf (es : List E7) (f : F5) : Int := match es.findIdx? (fun e => decide (e.1 = f)) with | some k => (k : Int) | none => -1
theorem pOf_hit {es : List E7} {f : F5} {k : Nat} (hk : k < es.length) (h : (es.getD k e0).1 = f) (hn : ∀ j, j < k → (es.getD j e0).1 ≠ f) : pOf es f = (k : Int) := by
  have : es.findIdx? (fun e => decide (e.1 = f)) = some k := by
    rw [List.findIdx?_eq_some_iff_getElem]
    refine ⟨hk, ?_, fun j hj => ?_⟩
    · rw [List.getD_eq_getElem?_getD, List.getElem?_eq_getElem hk] at h
      simpa using h
    · have := hn j hj
      rw [List.getD_eq_getElem?_getD, List.getElem?_eq_getElem (by omega)] at this
      simpa using this
  rw [pOf, this]
theorem pOf_none {es : List E7} {f : F5} (hn : ∀ j, j < es.length → (es.getD j e0).1 ≠ f) : pOf es f = -1 := by
  have : es.findIdx? (fun e => decide (e.1 = f)) = none := by
    rw [List.findIdx?_eq_none_iff]
    intro x hx
    obtain ⟨j, hj, rfl⟩ := List.getElem_of_mem hx
    have := hn j hj
    rw [List.getD_eq_getElem?_getD, List.getElem?_eq_getElem hj] at this
    simpa using this
  rw [pOf, this]
set_option maxHeartbeats 2000000 in
theorem c_place (f : F5) (a : Option Addr) (n cap : Nat) (es : List E7) (w : World) (hxs : es.length = n) (hn : n ≤ 1048576) (h : Ents w a es) :
    Calls Try.prog 82 #[.slice a n cap, fvv f] w fun e w' => e = .returned (.int .i64 (pOf es f)) ∧ Below w.heap.size w w' := by
  have HX := Lib.hid hxs
  have HI := Lib.hid h
  clear h hxs
  obtain ⟨y0, y1, y2, y3, y4⟩ := f
  unfold fvv
  go_enter Try.func82, Try.ntmps82
  go_wp2
  go_loopw [5] (fun i wr => ∃ (k : Nat), k ≤ n ∧ i = .int .i64 k ∧ Below w.heap.size w wr ∧ Box wr w.heap.size 37 [.int .i64 y0, .int .i64 y1, .int .i64 y2, .int .i64 y3, .int .i64 y4] ∧ Hid (∀ j, j < k → (es.getD j e0).1 ≠ (y0, y1, y2, y3, y4))) (fun i _ => n - (intOf i).toNat)
  case atStart => exact ⟨0, Nat.zero_le _, rfl, (Below.refl _ _).alloc (Nat.le_refl _) _, Box.new _ _ _, Lib.hid fun j hj => by omega⟩
  case round =>
    obtain ⟨k, hk, rfl, hG, hB, HV⟩ := hrel
    have HG := Lib.hid hG
    have HB := Lib.hid hB
    clear hG hB
    by_cases hlt : k < n
    · obtain ⟨b, off, rfl, hb, hc⟩ := (HI.out.below HG.out).at HX.out hlt
      obtain ⟨c0, c1, c2, c3, c4, c5, c6⟩ := hc k hlt
      obtain ⟨t0, t1, t2, t3, t4, ft⟩ := HB.out.five
      clear hc
      generalize hE : es.getD k e0 = E at *
      obtain ⟨⟨x0, x1, x2, x3, x4⟩, x5, x6⟩ := E
      have HF : Hid ((es.getD k e0).1 = (x0, x1, x2, x3, x4)) := Lib.hid (by rw [hE])
      clear hE
      dsimp only at c0 c1 c2 c3 c4 c5 c6
      by_cases hq : ((x0, x1, x2, x3, x4) : F5) = (y0, y1, y2, y3, y4)
      · have hqe : ∀ w, (binOp .eql 37 (.agg #[.int .i64 x0, .int .i64 x1, .int .i64 x2, .int .i64 x3, .int .i64 x4]) (.agg #[.int .i64 y0, .int .i64 y1, .int .i64 y2, .int .i64 y3, .int .i64 y4])).run Try.prog w = .ok (.bool true) w := eqlF_yes' hq
        have HQ := Lib.hid hq
        clear hq
        go_wp2
        go_quiet (fail)
        go_wp2
        go_ret
        exact ⟨ret_int (pOf_hit (by rw [HX.out]; exact hlt) (HF.out.trans HQ.out) HV.out).symm, below_drewN HG.out _⟩
      · have hqe : ∀ w, (binOp .eql 37 (.agg #[.int .i64 x0, .int .i64 x1, .int .i64 x2, .int .i64 x3, .int .i64 x4]) (.agg #[.int .i64 y0, .int .i64 y1, .int .i64 y2, .int .i64 y3, .int .i64 y4])).run Try.prog w = .ok (.bool false) w := eqlF_no' hq
        have HQ := Lib.hid hq
        clear hq
        go_wp2
        go_quiet (fail)
        go_wp2
        go_roundw
        case rel =>
          refine ⟨k + 1, by omega, by go_num, below_drewN HG.out _, HB.out, Lib.hid fun j hj => ?_⟩
          by_cases hjk : j = k
          · subst hjk; rw [HF.out]; exact HQ.out
          · exact HV.out j (by omega)
        case measure => simp [intOf]; omega
    · obtain rfl : k = n := by omega
      go_wp2
      go_ret
      exact ⟨ret_int (pOf_none (by rw [HX.out]; exact HV.out)).symm, HG.out⟩
theorem c_placeV (f : F5) (v : Int) (a : Option Addr) (n cap : Nat) (es : List E7) (w : World) (hxs : es.length = n) (hn : n ≤ 1048576) (h : Ents w a es) (hv : pOf es f = v) :
    Calls Try.prog 82 #[.slice a n cap, fvv f] w fun e w' => e = .returned (.int .i64 v) ∧ Below w.heap.size w w' := by
  rw [← hv]; exact c_place f a n cap es w hxs hn h
theorem pOf_cases (es : List E7) (f : F5) : (f ∉ es.map (·.1) ∧ pOf es f = -1) ∨ (f ∈ es.map (·.1) ∧ ∃ j : Nat, pOf es f = (j : Int) ∧ j < es.length ∧ (es.getD j e0).1 = f ∧ ∀ i, i < j → (es.getD i e0).1 ≠ f) := by
  unfold pOf
  cases h : es.findIdx? (fun e => decide (e.1 = f)) with
  | none =>
    left
    refine ⟨?_, rfl⟩
    rw [List.findIdx?_eq_none_iff] at h
    intro hm
    obtain ⟨e, he, hf⟩ := List.mem_map.1 hm
    have := h e he
    simp [hf] at this
  | some k =>
    right
    rw [List.findIdx?_eq_some_iff_getElem] at h
    obtain ⟨hk, h1, h2⟩ := h
    have h1' : es[k].1 = f := by simpa using h1
    refine ⟨List.mem_map.2 ⟨es[k], List.getElem_mem hk, h1'⟩, k, rfl, hk, ?_, fun i hi => ?_⟩
    · rw [List.getD_eq_getElem?_getD, List.getElem?_eq_getElem hk]; exact h1'
    · rw [List.getD_eq_getElem?_getD, List.getElem?_eq_getElem (by omega)]
      have := h2 i hi
      simpa using this
theorem eInts_take (es : List E7) (k : Nat) : eInts (es.take k) = (eInts es).take (k * 7) := by
  induction es generalizing k with
  | nil => simp [eInts]
  | cons e r ih =>
    cases k with
    | zero => simp [eInts]
    | succ k =>
      have : eInts (e :: r) = eI e ++ eInts r := rfl
      rw [List.take_succ_cons, this]
      have : eInts (e :: r.take k) = eI e ++ eInts (r.take k) := rfl
      rw [this, ih, show (k + 1) * 7 = (eI e).length + k * 7 from by show _ = 7 + k * 7; omega, List.take_length_add_append]
theorem eInts_drop (es : List E7) (k : Nat) : eInts (es.drop k) = (eInts es).drop (k * 7) := by
  induction es generalizing k with
  | nil => simp [eInts]
  | cons e r ih =>
    cases k with
    | zero => simp [eInts]
    | succ k =>
      have : eInts (e :: r) = eI e ++ eInts r := rfl
      rw [List.drop_succ_cons, this, ih, show (k + 1) * 7 = (eI e).length + k * 7 from by show _ = 7 + k * 7; omega, List.drop_length_add_append]
theorem Ents.take {w : World} {b off : Nat} {es : List E7} (h : Ents w (some ⟨b, off, none⟩) es) (k : Nat) : Ents w (some ⟨b, off, none⟩) (es.take k) := by
  unfold Ents; rw [eInts_take]; exact Ints.takeW h _
end Go.Proofs.Ytdkdfehlmphikaa
