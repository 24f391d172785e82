/- Copies of tables; fitsTime, l9Last. No condition but lists of at most 2^20 entries. -/
import Derived.Test.YtdkdfehlmphikaaTabE
namespace Go.Proofs.Ytdkdfehlmphikaa
open Go.RowKit
/-- A table's copy is handed back: its list is a new one. -/
def RetTab (w : World) (sz st : Int) (es : List E7) (e : Ending) (w' : World) : Prop :=
  ∃ (a : Option Addr) (cap : Nat), e = .returned (.agg #[.int .i64 sz, .int .i64 st, .slice a es.length cap]) ∧ w'.ownsRow w.heap.size 69 7 (.slice a es.length cap) es.length (eCells es) ∧ w.grownBy w' none
set_option maxHeartbeats 800000 in
theorem c_clone (sz st : Int) (a : Option Addr) (n cap : Nat) (es : List E7) (w : World) (hxs : es.length = n) (hn : n ≤ 1048576) (h : Ents w a es) (ha : a = none → n = 0 ∧ cap = 0) :
    Calls Try.prog 83 #[.agg #[.int .i64 sz, .int .i64 st, .slice a n cap]] w (RetTab w sz st es) := by
  have g0 : Below w.heap.size w ((w.alloc (.cells #[.int .i64 sz, .int .i64 st, .slice a n cap] 30)).alloc (.cells #[.int .i64 0, .int .i64 0, .slice none 0 0] 30)) := ((Below.refl _ _).alloc (Nat.le_refl _) _).alloc (by simp) _
  have HX := Lib.hid hxs
  have HG := Lib.hid g0
  have HI := Lib.hid (Ints.vals h)
  have HA := Lib.hid ha
  clear g0 h ha hxs
  go_enter Try.func83, Try.ntmps83
  go_wp2_with (at_builtin; refine wpl_appA _ rfl elemEntry (.const (.slice none 0 0)) (.tmp 4) rfl w.heap.size (.slice none 0 0) 0 [] rfl (row_nil _ _ _ _) a n cap (eCells es) rfl (Vals.below HI.out HG.out) (by rw [List.length_map, eInts_len, HX.out]) (ints_one _) HA.out (by omega) (by simp; omega) n (Nat.zero_add n) (eCells es) rfl ?_)
  intro a' cap' w1 ho hg hat
  have HO := Lib.hid ho
  have HT := Lib.hid hat
  have HB := Lib.hid (grown_below hg)
  clear ho hg hat
  have hz1 := HB.out.size
  simp only [World.size_alloc] at hz1
  obtain ⟨x0, x1, x2, fx⟩ := (((Box.new w 30 [.int .i64 sz, .int .i64 st, .slice a n cap]).alloc _).keep HB.out).three
  obtain ⟨y0, y1, y2, fy⟩ := ((Box.new2 (w.alloc (.cells #[.int .i64 sz, .int .i64 st, .slice a n cap] 30)) 30 [.int .i64 0, .int .i64 0, .slice none 0 0] (w.heap.size + 1) (by simp)).keep HB.out).three
  go_wp2
  have hq : Below w.heap.size w w1 := HG.out.trans (HB.out.mono (by simp; omega))
  have hblk : (Value.slice a' n cap').ownBlock ≠ some w.heap.size ∧ (Value.slice a' n cap').ownBlock ≠ some (w.heap.size + 1) := by
    have ht := HT.out
    rcases ht with h | h
    · rw [h]; exact ⟨by simp [Value.ownBlock], by simp [Value.ownBlock]⟩
    · rw [h]; exact ⟨fun e => by injection e; omega, fun e => by injection e; omega⟩
  refine bodyPost_ret (v := .agg #[.int .i64 sz, .int .i64 st, .slice a' n cap']) (by simp [results, Try.results83, go_sem, y0, y1, y2]) rfl ?_
  obtain rfl := HX.out
  refine ⟨a', cap', rfl, ?_, below_grown ?_⟩
  · exact row_set (row_set (row_set (row_set HO.out _ _ hblk.1) _ _ hblk.2) _ _ hblk.2) _ _ hblk.2
  · go_grown
/-- .. and it is not nil. -/
def RetTabN (w : World) (sz st : Int) (es : List E7) (e : Ending) (w' : World) : Prop :=
  ∃ (a : Option Addr) (cap : Nat), e = .returned (.agg #[.int .i64 sz, .int .i64 st, .slice a es.length cap]) ∧ w'.ownsRow w.heap.size 69 7 (.slice a es.length cap) es.length (eCells es) ∧ w.grownBy w' none ∧ ∃ g, a = some ⟨g, 0, none⟩
set_option maxHeartbeats 800000 in
theorem s_own (sz st : Int) (a : Option Addr) (n cap : Nat) (es : List E7) (w : World) (hxs : es.length = n) (hn : n ≤ 1048576) (h : Ents w a es) (ha : a = none → n = 0 ∧ cap = 0) :
    Calls Try.prog 66 #[.agg #[.int .i64 sz, .int .i64 st, .slice a n cap]] w (RetTabN w sz st es) := by
  obtain ⟨W0, hW0⟩ : ∃ W0, W0 = ((((w.alloc (.cells #[.int .i64 sz, .int .i64 st, .slice a n cap] 30)).alloc (.cells #[.int .i64 0, .int .i64 0, .slice none 0 0] 30)).alloc (.cells #[.int .i64 sz, .int .i64 st, .slice a n cap] 30)).alloc (.cells #[] 69)) := ⟨_, rfl⟩
  have g0 : Below w.heap.size w W0 := by
    rw [hW0]
    exact (((((Below.refl _ _).alloc (Nat.le_refl _) _).alloc (by simp) _).alloc (by simp; omega) _).alloc (by simp; omega) _)
  have hs0 : W0.heap.size = w.heap.size + 4 := by rw [hW0]; simp
  have hx0 : Box W0 w.heap.size 30 [.int .i64 sz, .int .i64 st, .slice a n cap] := by
    rw [hW0]; exact (((Box.new w _ _).alloc _).alloc _).alloc _
  have hy0 : Box W0 (w.heap.size + 1) 30 [.int .i64 0, .int .i64 0, .slice none 0 0] := by
    rw [hW0]; exact ((Box.new2 _ _ _ _ (by simp)).alloc _).alloc _
  have hu0 : Box W0 (w.heap.size + 2) 30 [.int .i64 sz, .int .i64 st, .slice a n cap] := by
    rw [hW0]; exact (Box.new2 _ _ _ _ (by simp)).alloc _
  have hr0 : W0.ownsRow (w.heap.size + 3) 69 7 (.slice (some ⟨w.heap.size + 3, 0, none⟩) 0 0) 0 [] := by
    rw [hW0]; exact row_emp _ _ _ _ (by simp) (Nat.le_refl _)
  have HX := Lib.hid hxs
  have HG := Lib.hid g0
  have HS := Lib.hid hs0
  have HR0 := Lib.hid hr0
  have HI := Lib.hid (Ints.vals h)
  have HA := Lib.hid ha
  have HQ := Lib.hid hx0
  have HY := Lib.hid hy0
  have HU := Lib.hid hu0
  have HW := Lib.hid hW0
  clear g0 h ha hxs hs0 hr0 hx0 hy0 hu0 hW0
  go_enter Try.func66, Try.ntmps66
  go_wp2_with (at_builtin; rw [← HW.out]; refine wpl_appA _ rfl elemEntry (.tmp 5) (.tmp 7) rfl (w.heap.size + 3) (.slice (some ⟨w.heap.size + 3, 0, none⟩) 0 0) 0 [] rfl HR0.out a n cap (eCells es) rfl (Vals.below HI.out HG.out) (by rw [List.length_map, eInts_len, HX.out]) (ints_one _) HA.out (by omega) (by rw [HS.out]; omega) n (Nat.zero_add n) (eCells es) rfl ?_)
  intro a' cap' w1 ho hg hat
  have HO := Lib.hid ho
  have HT := Lib.hid hat
  have HB : Hid (Below (w.heap.size + 3) W0 w1) := Lib.hid ((Below.refl _ _).grown hg (by rw [HS.out]; omega) (fun g h => by simp [Value.ownBlock] at h; omega))
  clear ho hg hat
  have hz1 := HB.out.size
  have hs := HS.out
  obtain ⟨x0, x1, x2, fx⟩ := (HQ.out.below HB.out (by omega)).three
  obtain ⟨y0, y1, y2, fy⟩ := (HY.out.below HB.out (by omega)).three
  obtain ⟨u0, u1, u2, fu⟩ := (HU.out.below HB.out (by omega)).three
  rw [hs] at hz1
  clear hs
  go_wp2
  have hq : Below w.heap.size w w1 := HG.out.trans (HB.out.mono (by omega))
  have hblk : (Value.slice a' n cap').ownBlock ≠ some (w.heap.size + 1) ∧ (Value.slice a' n cap').ownBlock ≠ some (w.heap.size + 2) := by
    rcases HT.out with h | h
    · rw [h]; exact ⟨fun e => by simp [Value.ownBlock] at e, fun e => by simp [Value.ownBlock] at e⟩
    · rw [h, HS.out]; exact ⟨fun e => by injection e; omega, fun e => by injection e; omega⟩
  refine bodyPost_ret (v := .agg #[.int .i64 sz, .int .i64 st, .slice a' n cap']) (by simp [results, Try.results66, go_sem, y0, y1, y2]) rfl ?_
  obtain rfl := HX.out
  have hsm : ∃ g, a' = some ⟨g, 0, none⟩ := by
    rcases HT.out with h | h
    · exact ⟨_, own_some HO.out (h.trans rfl)⟩
    · exact ⟨_, own_some HO.out h⟩
  refine ⟨a', cap', rfl, ?_, below_grown ?_, hsm⟩
  · exact row_wider (row_set (row_set (row_set (row_set HO.out _ _ hblk.2) _ _ hblk.1) _ _ hblk.1) _ _ hblk.1) (by omega)
  · go_grown
set_option maxHeartbeats 1600000 in
theorem s_copy (sz st : Int) (a : Option Addr) (n cap : Nat) (es : List E7) (w : World) (hxs : es.length = n) (hn : n ≤ 1048576) (h : Ents w a es) (ha : a = none → n = 0 ∧ cap = 0) :
    Calls Try.prog 89 #[.agg #[.int .i64 sz, .int .i64 st, .slice a n cap]] w (RetTabN w sz st es) := by
  obtain ⟨W, hW, gW, sW, bx, by1⟩ := headB w 30 30 [.int .i64 sz, .int .i64 st, .slice a n cap] [.int .i64 0, .int .i64 0, .slice none 0 0]
  have HX := Lib.hid hxs
  have HG := Lib.hid gW
  have HW := Lib.hid hW
  have HS := Lib.hid sW
  have HA := Lib.hid ha
  have HBX := Lib.hid bx
  have HBY := Lib.hid by1
  have HI := Lib.hid (Ints.vals (h.below gW))
  obtain ⟨x0, x1, x2, fx⟩ := bx.three
  clear hxs gW hW sW ha bx by1 h fx
  go_enter Try.func89, Try.ntmps89
  go_wp2_with fail
  rw [← HW.out]
  have hW2 : w.heap.size < W.heap.size := by have := HS.out; omega
  have H1 : Hid ((W.alloc (.cells #[] 69)).drew.ownsRow W.heap.size 69 7 (.slice (some ⟨W.heap.size, 0, none⟩) 0 0) 0 []) := Lib.hid (row_emp W _ _ _ rfl (Nat.le_refl _)).drew
  have A1 : Hid (Below W.heap.size W (W.alloc (.cells #[] 69)).drew) := Lib.hid ((Below.refl _ _).alloc (Nat.le_refl _) _).drew
  have hw1 : w.heap.size + 1 < W.heap.size := by have := HS.out; omega
  have HL := Lib.hid (show (eCells es).length = n * 7 by rw [List.length_map, eInts_len, HX.out])
  have HY1 : Hid (Box (W.alloc (.cells #[] 69)).drew (w.heap.size + 1) 30 [.int .i64 0, .int .i64 0, .slice none 0 0]) := Lib.hid (HBY.out.alloc _).drew
  go_region_held3 (fun w' => w'.cell? ⟨w.heap.size, 0, none⟩ = some (.int .i64 sz) ∧ w'.cell? ⟨w.heap.size, 1, none⟩ = some (.int .i64 st) ∧ w'.cell? ⟨w.heap.size, 2, none⟩ = some (.slice a n cap)) (first | (with_reducible exact ⟨keepD0 x0, keepD0 x1, keepD0 x2⟩) | (with_reducible exact ⟨keepD1 x0 _, keepD1 x1 _, keepD1 x2 _⟩) | (with_reducible exact ⟨kk0, kk1, kk2⟩) | (with_reducible exact ⟨keepS kk0 (by omega), keepS kk1 (by omega), keepS kk2 (by omega)⟩) | (trace "KEEP"; trace_state; fail))
      (first
        | (refine step_appA _ rfl elemEntry (.tmp 7) (.tmp 9) rfl W.heap.size (.slice (some ⟨W.heap.size, 0, none⟩) 0 0) 0 [] rfl H1.out a n cap (eCells es) rfl (Vals.below HI.out A1.out) HL.out (ints_one _) HA.out (by omega) (by simp) n (Nat.zero_add n) (eCells es) rfl ?_
           intro a5 c5 w5 hown5 hgrow5 hat5
           have HO5 := Lib.hid hown5
           have HB5 : Hid (Below W.heap.size W w5) := Lib.hid (A1.out.grown hgrow5 (by simp) (by simp [Value.ownBlock]))
           have HZ5 : Hid ((Value.slice a5 n c5).ownBlock = some W.heap.size ∨ (Value.slice a5 n c5).ownBlock = some (W.heap.size + 1)) := Lib.hid (by simpa [Value.ownBlock] using hat5)
           have HY5 : Hid (Box w5 (w.heap.size + 1) 30 [.int .i64 0, .int .i64 0, .slice none 0 0]) := Lib.hid (HY1.out.kept hgrow5 (by simp [Value.ownBlock]; omega))
           obtain ⟨m0, m1, m2, mf⟩ := HY5.out.three
           have kk0 : w5.cell? ⟨w.heap.size, 0, none⟩ = some (.int .i64 sz) := hgrow5.cell (keep x0 _) (by simp [Value.ownBlock]; omega)
           have kk1 : w5.cell? ⟨w.heap.size, 1, none⟩ = some (.int .i64 st) := hgrow5.cell (keep x1 _) (by simp [Value.ownBlock]; omega)
           have kk2 : w5.cell? ⟨w.heap.size, 2, none⟩ = some (.slice a n cap) := hgrow5.cell (keep x2 _) (by simp [Value.ownBlock]; omega)))
  have hne : (Value.slice a5 n c5).ownBlock ≠ some (w.heap.size + 1) := by rcases HZ5.out with h | h <;> rw [h] <;> intro e <;> injection e with e <;> omega
  go_wp2_with fail
  refine bodyPost_ret (v := .agg #[.int .i64 sz, .int .i64 st, .slice a5 n c5]) (by simp [results, Try.results89, go_sem, m0, m1, m2]) rfl ?_
  obtain rfl := HX.out
  have hsm : ∃ g, a5 = some ⟨g, 0, none⟩ := by
    rcases HZ5.out with h | h
    · exact ⟨_, own_some HO5.out h⟩
    · exact ⟨_, own_some HO5.out h⟩
  have hb : Below w.heap.size w w5 := HG.out.trans (HB5.out.mono (by omega))
  refine ⟨a5, c5, rfl, ?_, below_grown ?_, hsm⟩
  · exact row_wider (row_set (row_set (row_set HO5.out _ _ hne) _ _ hne) _ _ hne) (by omega)
  · go_grown
/-- When the last packet came, or 0. -/
def lastOf (es : List E7) : Int := if es.length = 0 then 0 else (es.getD (es.length - 1) e0).2.2
theorem s_last (sz st : Int) (a : Option Addr) (n cap : Nat) (es : List E7) (w : World) (hxs : es.length = n) (hn : n ≤ 1048576) (h : Ents w a es) :
    Calls Try.prog 88 #[.agg #[.int .i64 sz, .int .i64 st, .slice a n cap]] w fun e w' => e = .returned (.int .i64 (lastOf es)) ∧ Below w.heap.size w w' := by
  obtain ⟨W, hW, gW, sW, bx⟩ := head1 w 30 [.int .i64 sz, .int .i64 st, .slice a n cap]
  have HR : Hid (lastOf es = if n = 0 then 0 else (es.getD (n - 1) e0).2.2) := Lib.hid (by rw [lastOf, hxs])
  by_cases h0 : n = 0
  · subst h0
    have HR2 := Lib.hid (HR.out.trans (if_pos rfl))
    clear hxs h hn bx HR sW
    go_enter Try.func88, Try.ntmps88
    go_wp2
    go_ret
    exact ⟨ret_int HR2.out.symm, by rw [← hW]; exact gW⟩
  · have HR2 := Lib.hid (HR.out.trans (if_neg h0))
    obtain ⟨b, off, rfl, hb, hc⟩ := (h.below gW).at hxs (k := n - 1) (by omega)
    obtain ⟨_, _, _, _, _, _, c6⟩ := hc (n - 1) (by omega)
    rw [hW] at c6
    have hi1 : IntKind.i64.wrap ((n : Int) - 1) = (n : Int) - 1 := IntWalk.i64_in _ (by omega)
    have hi2 : ((n : Int) - 1).toNat = n - 1 := by omega
    have hi3 : 0 ≤ (n : Int) - 1 := by omega
    have hi4 : (n : Int) - 1 < (n : Int) := by omega
    have h0' : ¬ (n : Int) = 0 := by omega
    have HGW := Lib.hid gW
    have HW := Lib.hid hW
    clear hxs h hn bx HR hc sW hW gW hb
    generalize (es.getD (n - 1) e0).2.2 = M at *
    go_enter Try.func88, Try.ntmps88
    go_wp2
    go_ret
    exact ⟨ret_int HR2.out.symm, by rw [← HW.out]; exact HGW.out⟩
/-- A time is one, and not before any entry. -/
def fitB (es : List E7) (now : Int) : Bool := inB now 0 100000 && decide (lastOf es ≤ now)
theorem c_fits (sz st now : Int) (a : Option Addr) (n cap : Nat) (es : List E7) (w : World) (hxs : es.length = n) (hn : n ≤ 1048576) (h : Ents w a es) :
    Calls Try.prog 71 #[.agg #[.int .i64 sz, .int .i64 st, .slice a n cap], .int .i64 now] w fun e w' => e = .returned (.bool (fitB es now)) ∧ Below w.heap.size w w' := by
  obtain ⟨W, hW, gW, sW, bx⟩ := head1 w 30 [.int .i64 sz, .int .i64 st, .slice a n cap]
  have HR : Hid (lastOf es = if n = 0 then 0 else (es.getD (n - 1) e0).2.2) := Lib.hid (by rw [lastOf, hxs])
  have HF : Hid (fitB es now = (inB now 0 100000 && decide (lastOf es ≤ now))) := Lib.hid rfl
  cases h1 : inB now 0 100000
  · have HR2 : Hid (fitB es now = false) := Lib.hid (by rw [HF.out, h1]; rfl)
    clear hxs h hn bx HR sW HF
    go_enter Try.func71, Try.ntmps71
    go_wp2_with (go_at_call 64; refine (c_isTime _ _).mono ?_; rintro e w' ⟨rfl, rfl⟩)
    go_ret
    exact ⟨ret_bool HR2.out.symm, by rw [← hW]; exact gW⟩
  by_cases h0 : n = 0
  · subst h0
    have HR2 : Hid (fitB es now = true) := Lib.hid (by rw [HF.out, h1, HR.out, if_pos rfl, decide_eq_true (inB_true.1 h1).1]; rfl)
    clear hxs h hn bx HR sW HF
    go_enter Try.func71, Try.ntmps71
    go_wp2_with (go_at_call 64; refine (c_isTime _ _).mono ?_; rintro e w' ⟨rfl, rfl⟩)
    go_ret
    exact ⟨ret_bool HR2.out.symm, by rw [← hW]; exact gW⟩
  · have HR2 : Hid (fitB es now = decide ((es.getD (n - 1) e0).2.2 ≤ now)) := Lib.hid (by rw [HF.out, h1, HR.out, if_neg h0]; rfl)
    obtain ⟨b, off, rfl, hb, hc⟩ := (h.below gW).at hxs (k := n - 1) (by omega)
    obtain ⟨_, _, _, _, _, _, c6⟩ := hc (n - 1) (by omega)
    rw [hW] at c6
    have hi1 : IntKind.i64.wrap ((n : Int) - 1) = (n : Int) - 1 := IntWalk.i64_in _ (by omega)
    have hi2 : ((n : Int) - 1).toNat = n - 1 := by omega
    have hi3 : 0 ≤ (n : Int) - 1 := by omega
    have hi4 : (n : Int) - 1 < (n : Int) := by omega
    have h0' : ((n : Int) == 0) = false := beq_eq_false_iff_ne.2 (by omega)
    have HGW := Lib.hid gW
    have HW := Lib.hid hW
    clear hxs h hn bx HR hc sW hW gW hb HF
    generalize (es.getD (n - 1) e0).2.2 = M at *
    go_enter Try.func71, Try.ntmps71
    go_wp2_with (go_at_call 64; refine (c_isTime _ _).mono ?_; rintro e w' ⟨rfl, rfl⟩)
    go_ret
    exact ⟨ret_bool HR2.out.symm, by rw [← HW.out]; exact HGW.out⟩
end Go.Proofs.Ytdkdfehlmphikaa
