/- Outlets: copies; where a flow stands. No condition but lists of at most 2^20 flows. -/
import Derived.Test.YtalalapjanckdaaOutW
namespace Go.Proofs.Ytalalapjanckdaa
open Go.RowKit
/-- An outlet's copy is handed back: its list is a new one. -/
def RetOut (w : World) (oo rr : Int) (fs : List F5) (e : Ending) (w' : World) : Prop :=
  ∃ (a : Option Addr) (cap : Nat), e = .returned (.agg #[.int .i64 oo, .int .i64 rr, .slice a fs.length cap]) ∧ w'.ownsRow w.heap.size 27 5 (.slice a fs.length cap) fs.length (fCells fs) ∧ w.grownBy w' none
set_option maxHeartbeats 800000 in
theorem c_clone (oo rr : Int) (a : Option Addr) (n cap : Nat) (fs : List F5) (w : World) (hxs : fs.length = n) (hn : n ≤ 1048576) (h : Flws w a fs) (ha : a = none → n = 0 ∧ cap = 0) :
    Calls Try.prog 51 #[.agg #[.int .i64 oo, .int .i64 rr, .slice a n cap]] w (RetOut w oo rr fs) := by
  have g0 : Below w.heap.size w ((w.alloc (.cells #[.int .i64 oo, .int .i64 rr, .slice a n cap] 25)).alloc (.cells #[.int .i64 0, .int .i64 0, .slice none 0 0] 25)) := ((Below.refl _ _).alloc (Nat.le_refl _) _).alloc (by simp) _
  have HX := Lib.hid hxs
  have HG := Lib.hid g0
  have HI := Lib.hid (Ints.vals h)
  have HA := Lib.hid ha
  clear g0 h ha hxs
  go_enter Try.func51, Try.ntmps51
  go_wp2_with (at_builtin; refine wpl_appA _ rfl elemFlow (.const (.slice none 0 0)) (.tmp 4) rfl w.heap.size (.slice none 0 0) 0 [] rfl (row_nil _ _ _ _) a n cap (fCells fs) rfl (Vals.below HI.out HG.out) (by rw [List.length_map, fInts_len, HX.out]) (ints_one _) HA.out (by omega) (by simp; omega) n (Nat.zero_add n) (fCells fs) rfl ?_)
  intro a' cap' w1 ho hg hat
  have HO := Lib.hid ho
  have HT := Lib.hid hat
  have HB := Lib.hid (grown_below hg)
  clear ho hg hat
  have hz1 := HB.out.size
  simp only [World.size_alloc] at hz1
  obtain ⟨x0, x1, x2, fx⟩ := (((Box.new w 25 [.int .i64 oo, .int .i64 rr, .slice a n cap]).alloc _).keep HB.out).three
  obtain ⟨y0, y1, y2, fy⟩ := ((Box.new2 (w.alloc (.cells #[.int .i64 oo, .int .i64 rr, .slice a n cap] 25)) 25 [.int .i64 0, .int .i64 0, .slice none 0 0] (w.heap.size + 1) (by simp)).keep HB.out).three
  go_wp2
  have hq : Below w.heap.size w w1 := HG.out.trans (HB.out.mono (by simp; omega))
  have hblk : (Value.slice a' n cap').ownBlock ≠ some w.heap.size ∧ (Value.slice a' n cap').ownBlock ≠ some (w.heap.size + 1) := by
    have ht := HT.out
    rcases ht with h | h
    · rw [h]; exact ⟨by simp [Value.ownBlock], by simp [Value.ownBlock]⟩
    · rw [h]; exact ⟨fun e => by injection e; omega, fun e => by injection e; omega⟩
  refine bodyPost_ret (v := .agg #[.int .i64 oo, .int .i64 rr, .slice a' n cap']) (by simp [results, Try.results51, go_sem, y0, y1, y2]) rfl ?_
  obtain rfl := HX.out
  refine ⟨a', cap', rfl, ?_, below_grown ?_⟩
  · exact row_set (row_set (row_set (row_set HO.out _ _ hblk.1) _ _ hblk.2) _ _ hblk.2) _ _ hblk.2
  · go_grown
/-- .. and it is not nil. -/
def RetOutN (w : World) (oo rr : Int) (fs : List F5) (e : Ending) (w' : World) : Prop :=
  ∃ (a : Option Addr) (cap : Nat), e = .returned (.agg #[.int .i64 oo, .int .i64 rr, .slice a fs.length cap]) ∧ w'.ownsRow w.heap.size 27 5 (.slice a fs.length cap) fs.length (fCells fs) ∧ w.grownBy w' none ∧ ∃ g, a = some ⟨g, 0, none⟩
set_option maxHeartbeats 1600000 in
theorem s_copy (oo rr : Int) (a : Option Addr) (n cap : Nat) (fs : List F5) (w : World) (hxs : fs.length = n) (hn : n ≤ 1048576) (h : Flws w a fs) (ha : a = none → n = 0 ∧ cap = 0) :
    Calls Try.prog 55 #[.agg #[.int .i64 oo, .int .i64 rr, .slice a n cap]] w (RetOutN w oo rr fs) := by
  obtain ⟨W, hW, gW, sW, bx, by1⟩ := headB w 25 25 [.int .i64 oo, .int .i64 rr, .slice a n cap] [.int .i64 0, .int .i64 0, .slice none 0 0]
  have HX := Lib.hid hxs
  have HG := Lib.hid gW
  have HW := Lib.hid hW
  have HS := Lib.hid sW
  have HA := Lib.hid ha
  have HBX := Lib.hid bx
  have HBY := Lib.hid by1
  have HI := Lib.hid (Ints.vals (h.below gW))
  obtain ⟨x0, x1, x2, fx⟩ := bx.three
  clear hxs gW hW sW ha bx by1 h fx
  go_enter Try.func55, Try.ntmps55
  go_wp2_with fail
  rw [← HW.out]
  have hW2 : w.heap.size < W.heap.size := by have := HS.out; omega
  have H1 : Hid ((W.alloc (.cells #[] 27)).drew.ownsRow W.heap.size 27 5 (.slice (some ⟨W.heap.size, 0, none⟩) 0 0) 0 []) := Lib.hid (row_emp W _ _ _ rfl (Nat.le_refl _)).drew
  have A1 : Hid (Below W.heap.size W (W.alloc (.cells #[] 27)).drew) := Lib.hid ((Below.refl _ _).alloc (Nat.le_refl _) _).drew
  have hw1 : w.heap.size + 1 < W.heap.size := by have := HS.out; omega
  have HL := Lib.hid (show (fCells fs).length = n * 5 by rw [List.length_map, fInts_len, HX.out])
  have HY1 : Hid (Box (W.alloc (.cells #[] 27)).drew (w.heap.size + 1) 25 [.int .i64 0, .int .i64 0, .slice none 0 0]) := Lib.hid (HBY.out.alloc _).drew
  go_region_held3 (fun w' => w'.cell? ⟨w.heap.size, 0, none⟩ = some (.int .i64 oo) ∧ w'.cell? ⟨w.heap.size, 1, none⟩ = some (.int .i64 rr) ∧ w'.cell? ⟨w.heap.size, 2, none⟩ = some (.slice a n cap)) (first | (with_reducible exact ⟨keepD0 x0, keepD0 x1, keepD0 x2⟩) | (with_reducible exact ⟨keepD1 x0 _, keepD1 x1 _, keepD1 x2 _⟩) | (with_reducible exact ⟨kk0, kk1, kk2⟩) | (with_reducible exact ⟨keepS kk0 (by omega), keepS kk1 (by omega), keepS kk2 (by omega)⟩) | (trace "KEEP"; trace_state; fail))
      (first
        | (refine step_appA _ rfl elemFlow (.tmp 7) (.tmp 9) rfl W.heap.size (.slice (some ⟨W.heap.size, 0, none⟩) 0 0) 0 [] rfl H1.out a n cap (fCells fs) rfl (Vals.below HI.out A1.out) HL.out (ints_one _) HA.out (by omega) (by simp) n (Nat.zero_add n) (fCells fs) rfl ?_
           intro a5 c5 w5 hown5 hgrow5 hat5
           have HO5 := Lib.hid hown5
           have HB5 : Hid (Below W.heap.size W w5) := Lib.hid (A1.out.grown hgrow5 (by simp) (by simp [Value.ownBlock]))
           have HZ5 : Hid ((Value.slice a5 n c5).ownBlock = some W.heap.size ∨ (Value.slice a5 n c5).ownBlock = some (W.heap.size + 1)) := Lib.hid (by simpa [Value.ownBlock] using hat5)
           have HY5 : Hid (Box w5 (w.heap.size + 1) 25 [.int .i64 0, .int .i64 0, .slice none 0 0]) := Lib.hid (HY1.out.kept hgrow5 (by simp [Value.ownBlock]; omega))
           obtain ⟨m0, m1, m2, mf⟩ := HY5.out.three
           have kk0 : w5.cell? ⟨w.heap.size, 0, none⟩ = some (.int .i64 oo) := hgrow5.cell (keep x0 _) (by simp [Value.ownBlock]; omega)
           have kk1 : w5.cell? ⟨w.heap.size, 1, none⟩ = some (.int .i64 rr) := hgrow5.cell (keep x1 _) (by simp [Value.ownBlock]; omega)
           have kk2 : w5.cell? ⟨w.heap.size, 2, none⟩ = some (.slice a n cap) := hgrow5.cell (keep x2 _) (by simp [Value.ownBlock]; omega)))
  have hne : (Value.slice a5 n c5).ownBlock ≠ some (w.heap.size + 1) := by rcases HZ5.out with h | h <;> rw [h] <;> intro e <;> injection e with e <;> omega
  go_wp2_with fail
  refine bodyPost_ret (v := .agg #[.int .i64 oo, .int .i64 rr, .slice a5 n c5]) (by simp [results, Try.results55, go_sem, m0, m1, m2]) rfl ?_
  obtain rfl := HX.out
  have hsm : ∃ g, a5 = some ⟨g, 0, none⟩ := by
    rcases HZ5.out with h | h
    · exact ⟨_, own_some HO5.out h⟩
    · exact ⟨_, own_some HO5.out h⟩
  have hb : Below w.heap.size w w5 := HG.out.trans (HB5.out.mono (by omega))
  refine ⟨a5, c5, rfl, ?_, below_grown ?_, hsm⟩
  · exact row_wider (row_set (row_set (row_set HO5.out _ _ hne) _ _ hne) _ _ hne) (by omega)
  · go_grown
/-- The place of a flow, or -1. -/
def qOf (fs : List F5) (f : F5) : Int := match fs.findIdx? (fun e => decide (e = f)) with | some k => (k : Int) | none => -1
theorem qOf_hit {fs : List F5} {f : F5} {k : Nat} (hk : k < fs.length) (h : fs.getD k z5 = f) (hn : ∀ j, j < k → fs.getD j z5 ≠ f) : qOf fs f = (k : Int) := by
  have : fs.findIdx? (fun e => decide (e = f)) = some k := by
    rw [List.findIdx?_eq_some_iff_getElem]
    refine ⟨hk, ?_, fun j hj => ?_⟩
    · rw [List.getD_eq_getElem?_getD, List.getElem?_eq_getElem hk] at h
      simpa using h
    · have := hn j hj
      rw [List.getD_eq_getElem?_getD, List.getElem?_eq_getElem (by omega)] at this
      simpa using this
  rw [qOf, this]
theorem qOf_none {fs : List F5} {f : F5} (hn : ∀ j, j < fs.length → fs.getD j z5 ≠ f) : qOf fs f = -1 := by
  have : fs.findIdx? (fun e => decide (e = f)) = none := by
    rw [List.findIdx?_eq_none_iff]
    intro x hx
    obtain ⟨j, hj, rfl⟩ := List.getElem_of_mem hx
    have := hn j hj
    rw [List.getD_eq_getElem?_getD, List.getElem?_eq_getElem hj] at this
    simpa using this
  rw [qOf, this]
theorem qOf_cases (fs : List F5) (f : F5) : (f ∉ fs ∧ qOf fs f = -1) ∨ (f ∈ fs ∧ ∃ j : Nat, qOf fs f = (j : Int) ∧ j < fs.length ∧ fs.getD j z5 = f ∧ ∀ i, i < j → fs.getD i z5 ≠ f) := by
  unfold qOf
  cases h : fs.findIdx? (fun e => decide (e = f)) with
  | none =>
    left
    refine ⟨?_, rfl⟩
    rw [List.findIdx?_eq_none_iff] at h
    intro hm
    have := h f hm
    simp at this
  | some k =>
    right
    rw [List.findIdx?_eq_some_iff_getElem] at h
    obtain ⟨hk, h1, h2⟩ := h
    have h1' : fs[k] = f := by simpa using h1
    refine ⟨h1' ▸ List.getElem_mem hk, k, rfl, hk, ?_, fun i hi => ?_⟩
    · rw [List.getD_eq_getElem?_getD, List.getElem?_eq_getElem hk]; exact h1'
    · rw [List.getD_eq_getElem?_getD, List.getElem?_eq_getElem (by omega)]
      have := h2 i hi
      simpa using this
set_option maxHeartbeats 2000000 in
theorem c_Index (f : F5) (a : Option Addr) (n cap : Nat) (fs : List F5) (w : World) (hxs : fs.length = n) (hn : n ≤ 1048576) (h : Flws w a fs) :
    Calls Try.prog 52 #[.slice a n cap, fvv f] w fun e w' => e = .returned (.int .i64 (qOf fs f)) ∧ Below w.heap.size w w' := by
  have HX := Lib.hid hxs
  have HI := Lib.hid h
  clear h hxs
  obtain ⟨y0, y1, y2, y3, y4⟩ := f
  unfold fvv
  go_enter Try.func52, Try.ntmps52
  go_wp2
  go_loopw [8] (fun i wr => ∃ (k : Nat), k ≤ n ∧ i = .int .i64 k ∧ Below w.heap.size w wr ∧ Box wr w.heap.size 27 [.int .i64 y0, .int .i64 y1, .int .i64 y2, .int .i64 y3, .int .i64 y4] ∧ Hid (∀ j, j < k → fs.getD j z5 ≠ (y0, y1, y2, y3, y4))) (fun i _ => n - (intOf i).toNat)
  case atStart => exact ⟨0, Nat.zero_le _, rfl, (Below.refl _ _).alloc (Nat.le_refl _) _, Box.new _ _ _, Lib.hid fun j hj => by omega⟩
  case round =>
    obtain ⟨k, hk, rfl, hG, hB, HV⟩ := hrel
    have HG := Lib.hid hG
    have HB := Lib.hid hB
    clear hG hB
    by_cases hlt : k < n
    · obtain ⟨b, off, rfl, hb, hc⟩ := (HI.out.below HG.out).at HX.out hlt
      obtain ⟨c0, c1, c2, c3, c4⟩ := hc k hlt
      obtain ⟨t0, t1, t2, t3, t4, ft⟩ := HB.out.five
      clear hc
      generalize hE : fs.getD k z5 = E at *
      obtain ⟨x0, x1, x2, x3, x4⟩ := E
      have HF : Hid (fs.getD k z5 = (x0, x1, x2, x3, x4)) := Lib.hid (by rw [hE])
      clear hE
      dsimp only at c0 c1 c2 c3 c4
      by_cases hq : ((x0, x1, x2, x3, x4) : F5) = (y0, y1, y2, y3, y4)
      · have hqe : ∀ w, (binOp .eql 27 (.agg #[.int .i64 y0, .int .i64 y1, .int .i64 y2, .int .i64 y3, .int .i64 y4]) (.agg #[.int .i64 x0, .int .i64 x1, .int .i64 x2, .int .i64 x3, .int .i64 x4])).run Try.prog w = .ok (.bool true) w := eqlF_yes' hq.symm
        have HQ := Lib.hid hq
        clear hq
        go_wp2
        go_quiet (fail)
        go_wp2
        go_ret
        exact ⟨ret_int (qOf_hit (by rw [HX.out]; exact hlt) (HF.out.trans HQ.out) HV.out).symm, below_drewN HG.out _⟩
      · have hqe : ∀ w, (binOp .eql 27 (.agg #[.int .i64 y0, .int .i64 y1, .int .i64 y2, .int .i64 y3, .int .i64 y4]) (.agg #[.int .i64 x0, .int .i64 x1, .int .i64 x2, .int .i64 x3, .int .i64 x4])).run Try.prog w = .ok (.bool false) w := eqlF_no' (Ne.symm hq)
        have HQ := Lib.hid hq
        clear hq
        go_wp2
        go_quiet (fail)
        go_wp2
        go_roundw
        case rel =>
          refine ⟨k + 1, by omega, by go_num, below_drewN HG.out _, HB.out, Lib.hid fun j hj => ?_⟩
          by_cases hjk : j = k
          · subst hjk; rw [HF.out]; exact HQ.out
          · exact HV.out j (by omega)
        case measure => simp [intOf]; omega
    · obtain rfl : k = n := by omega
      go_wp2
      go_ret
      exact ⟨ret_int (qOf_none (by rw [HX.out]; exact HV.out)).symm, HG.out⟩
set_option maxHeartbeats 2000000 in
theorem s_Place (oo rr : Int) (f : F5) (a : Option Addr) (n cap : Nat) (fs : List F5) (w : World) (hxs : fs.length = n) (hn : n ≤ 1048576) (h : Flws w a fs) :
    Calls Try.prog 56 #[.agg #[.int .i64 oo, .int .i64 rr, .slice a n cap], fvv f] w fun e w' => e = .returned (.int .i64 (qOf fs f)) ∧ Below w.heap.size w w' := by
  have HX := Lib.hid hxs
  have HI := Lib.hid h
  clear h hxs
  obtain ⟨y0, y1, y2, y3, y4⟩ := f
  unfold fvv
  go_enter Try.func56, Try.ntmps56
  go_wp2
  go_loopw [5] (fun i wr => ∃ (k : Nat), k ≤ n ∧ i = .int .i64 k ∧ Below w.heap.size w wr ∧ Box wr w.heap.size 25 [.int .i64 oo, .int .i64 rr, .slice a n cap] ∧ Box wr (w.heap.size + 1) 27 [.int .i64 y0, .int .i64 y1, .int .i64 y2, .int .i64 y3, .int .i64 y4] ∧ Hid (∀ j, j < k → fs.getD j z5 ≠ (y0, y1, y2, y3, y4))) (fun i _ => n - (intOf i).toNat)
  case atStart => exact ⟨0, Nat.zero_le _, rfl, ((Below.refl _ _).alloc (Nat.le_refl _) _).alloc (by simp) _, (Box.new _ _ _).alloc _, Box.new2 _ _ _ _ (by simp), Lib.hid fun j hj => by omega⟩
  case round =>
    obtain ⟨k, hk, rfl, hG, hO, hB, HV⟩ := hrel
    have HG := Lib.hid hG
    have HB := Lib.hid hB
    have HOB := Lib.hid hO
    have hz := hG.size
    obtain ⟨r0, r1, r2, fr⟩ := hO.three
    clear hG hB hO
    by_cases hlt : k < n
    · obtain ⟨b, off, rfl, hb, hc⟩ := (HI.out.below HG.out).at HX.out hlt
      obtain ⟨c0, c1, c2, c3, c4⟩ := hc k hlt
      obtain ⟨t0, t1, t2, t3, t4, ft⟩ := HB.out.five
      clear hc
      generalize hE : fs.getD k z5 = E at *
      obtain ⟨x0, x1, x2, x3, x4⟩ := E
      have HF : Hid (fs.getD k z5 = (x0, x1, x2, x3, x4)) := Lib.hid (by rw [hE])
      clear hE
      dsimp only at c0 c1 c2 c3 c4
      by_cases hq : ((x0, x1, x2, x3, x4) : F5) = (y0, y1, y2, y3, y4)
      · have hqe : ∀ w, (binOp .eql 27 (.agg #[.int .i64 x0, .int .i64 x1, .int .i64 x2, .int .i64 x3, .int .i64 x4]) (.agg #[.int .i64 y0, .int .i64 y1, .int .i64 y2, .int .i64 y3, .int .i64 y4])).run Try.prog w = .ok (.bool true) w := eqlF_yes' hq
        have HQ := Lib.hid hq
        clear hq
        go_wp2
        go_quiet (fail)
        go_wp2
        go_ret
        exact ⟨ret_int (qOf_hit (by rw [HX.out]; exact hlt) (HF.out.trans HQ.out) HV.out).symm, below_drewN HG.out _⟩
      · have hqe : ∀ w, (binOp .eql 27 (.agg #[.int .i64 x0, .int .i64 x1, .int .i64 x2, .int .i64 x3, .int .i64 x4]) (.agg #[.int .i64 y0, .int .i64 y1, .int .i64 y2, .int .i64 y3, .int .i64 y4])).run Try.prog w = .ok (.bool false) w := eqlF_no' hq
        have HQ := Lib.hid hq
        clear hq
        go_wp2
        go_quiet (fail)
        go_wp2
        go_roundw
        case rel =>
          refine ⟨k + 1, by omega, by go_num, below_drewN HG.out _, HOB.out, HB.out, Lib.hid fun j hj => ?_⟩
          by_cases hjk : j = k
          · subst hjk; rw [HF.out]; exact HQ.out
          · exact HV.out j (by omega)
        case measure => simp [intOf]; omega
    · obtain rfl : k = n := by omega
      go_wp2
      go_ret
      exact ⟨ret_int (qOf_none (by rw [HX.out]; exact HV.out)).symm, HG.out⟩
end Go.Proofs.Ytalalapjanckdaa
