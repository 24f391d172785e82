/- Texts laid together (TabC, TabV, TabG, TabW, TabH, TabI, TabJ, TabK, TabT, TabU). No condition but what each theorem says. -/
import Derived.Test.YtdkdfehlmphikaaMB
import Derived.Deep.DeepCutAuto
import Derived.Deep.RegionLaw
import Derived.ArgAppend
/- Copies of tables; fitsTime, l9Last. No condition but lists of at most 2^20 entries. -/
namespace Go.Proofs.Ytdkdfehlmphikaa
open Go.RowKit
/-- A table's copy is handed back: its list is a new one. -/
def RetTab (w : World) (sz st : Int) (es : List E7) (e : Ending) (w' : World) : Prop :=
  ∃ (a : Option Addr) (cap : Nat), e = .returned (.agg #[.int .i64 sz, .int .i64 st, .slice a es.length cap]) ∧ w'.ownsRow w.heap.size 69 7 (.slice a es.length cap) es.length (eCells es) ∧ w.grownBy w' none
set_option maxHeartbeats 800000 in
theorem c_clone (sz st : Int) (a : Option Addr) (n cap : Nat) (es : List E7) (w : World) (hxs : es.length = n) (hn : n ≤ 1048576) (h : Ents w a es) (ha : a = none → n = 0 ∧ cap = 0) :
    Calls Try.prog 83 #[.agg #[.int .i64 sz, .int .i64 st, .slice a n cap]] w (RetTab w sz st es) := by
  have g0 : Below w.heap.size w ((w.alloc (.cells #[.int .i64 sz, .int .i64 st, .slice a n cap] 30)).alloc (.cells #[.int .i64 0, .int .i64 0, .slice none 0 0] 30)) := ((Below.refl _ _).alloc (Nat.le_refl _) _).alloc (by simp) _
  have HX := Lib.hid hxs
  have HG := Lib.hid g0
  have HI := Lib.hid (Ints.vals h)
  have HA := Lib.hid ha
  clear g0 h ha hxs
  go_enter Try.func83, Try.ntmps83
  go_wp2_with (at_builtin; refine wpl_appA _ rfl elemEntry (.const (.slice none 0 0)) (.tmp 4) rfl w.heap.size (.slice none 0 0) 0 [] rfl (row_nil _ _ _ _) a n cap (eCells es) rfl (Vals.below HI.out HG.out) (by rw [List.length_map, eInts_len, HX.out]) (ints_one _) HA.out (by omega) (by simp; omega) n (Nat.zero_add n) (eCells es) rfl ?_)
  intro a' cap' w1 ho hg hat
  have HO := Lib.hid ho
  have HT := Lib.hid hat
  have HB := Lib.hid (grown_below hg)
  clear ho hg hat
  have hz1 := HB.out.size
  simp only [World.size_alloc] at hz1
  obtain ⟨x0, x1, x2, fx⟩ := (((Box.new w 30 [.int .i64 sz, .int .i64 st, .slice a n cap]).alloc _).keep HB.out).three
  obtain ⟨y0, y1, y2, fy⟩ := ((Box.new2 (w.alloc (.cells #[.int .i64 sz, .int .i64 st, .slice a n cap] 30)) 30 [.int .i64 0, .int .i64 0, .slice none 0 0] (w.heap.size + 1) (by simp)).keep HB.out).three
  go_wp2
  have hq : Below w.heap.size w w1 := HG.out.trans (HB.out.mono (by simp; omega))
  have hblk : (Value.slice a' n cap').ownBlock ≠ some w.heap.size ∧ (Value.slice a' n cap').ownBlock ≠ some (w.heap.size + 1) := by
    have ht := HT.out
    rcases ht with h | h
    · rw [h]; exact ⟨by simp [Value.ownBlock], by simp [Value.ownBlock]⟩
    · rw [h]; exact ⟨fun e => by injection e; omega, fun e => by injection e; omega⟩
  refine bodyPost_ret (v := .agg #[.int .i64 sz, .int .i64 st, .slice a' n cap']) (by simp [results, Try.results83, go_sem, y0, y1, y2]) rfl ?_
  obtain rfl := HX.out
  refine ⟨a', cap', rfl, ?_, below_grown ?_⟩
  · exact row_set (row_set (row_set (row_set HO.out _ _ hblk.1) _ _ hblk.2) _ _ hblk.2) _ _ hblk.2
  · go_grown
/-- .. and it is not nil. -/
def RetTabN (w : World) (sz st : Int) (es : List E7) (e : Ending) (w' : World) : Prop :=
  ∃ (a : Option Addr) (cap : Nat), e = .returned (.agg #[.int .i64 sz, .int .i64 st, .slice a es.length cap]) ∧ w'.ownsRow w.heap.size 69 7 (.slice a es.length cap) es.length (eCells es) ∧ w.grownBy w' none ∧ ∃ g, a = some ⟨g, 0, none⟩
set_option maxHeartbeats 800000 in
theorem s_own (sz st : Int) (a : Option Addr) (n cap : Nat) (es : List E7) (w : World) (hxs : es.length = n) (hn : n ≤ 1048576) (h : Ents w a es) (ha : a = none → n = 0 ∧ cap = 0) :
    Calls Try.prog 66 #[.agg #[.int .i64 sz, .int .i64 st, .slice a n cap]] w (RetTabN w sz st es) := by
  obtain ⟨W0, hW0⟩ : ∃ W0, W0 = ((((w.alloc (.cells #[.int .i64 sz, .int .i64 st, .slice a n cap] 30)).alloc (.cells #[.int .i64 0, .int .i64 0, .slice none 0 0] 30)).alloc (.cells #[.int .i64 sz, .int .i64 st, .slice a n cap] 30)).alloc (.cells #[] 69)) := ⟨_, rfl⟩
  have g0 : Below w.heap.size w W0 := by
    rw [hW0]
    exact (((((Below.refl _ _).alloc (Nat.le_refl _) _).alloc (by simp) _).alloc (by simp; omega) _).alloc (by simp; omega) _)
  have hs0 : W0.heap.size = w.heap.size + 4 := by rw [hW0]; simp
  have hx0 : Box W0 w.heap.size 30 [.int .i64 sz, .int .i64 st, .slice a n cap] := by
    rw [hW0]; exact (((Box.new w _ _).alloc _).alloc _).alloc _
  have hy0 : Box W0 (w.heap.size + 1) 30 [.int .i64 0, .int .i64 0, .slice none 0 0] := by
    rw [hW0]; exact ((Box.new2 _ _ _ _ (by simp)).alloc _).alloc _
  have hu0 : Box W0 (w.heap.size + 2) 30 [.int .i64 sz, .int .i64 st, .slice a n cap] := by
    rw [hW0]; exact (Box.new2 _ _ _ _ (by simp)).alloc _
  have hr0 : W0.ownsRow (w.heap.size + 3) 69 7 (.slice (some ⟨w.heap.size + 3, 0, none⟩) 0 0) 0 [] := by
    rw [hW0]; exact row_emp _ _ _ _ (by simp) (Nat.le_refl _)
  have HX := Lib.hid hxs
  have HG := Lib.hid g0
  have HS := Lib.hid hs0
  have HR0 := Lib.hid hr0
  have HI := Lib.hid (Ints.vals h)
  have HA := Lib.hid ha
  have HQ := Lib.hid hx0
  have HY := Lib.hid hy0
  have HU := Lib.hid hu0
  have HW := Lib.hid hW0
  clear g0 h ha hxs hs0 hr0 hx0 hy0 hu0 hW0
  go_enter Try.func66, Try.ntmps66
  go_wp2_with (at_builtin; rw [← HW.out]; refine wpl_appA _ rfl elemEntry (.tmp 5) (.tmp 7) rfl (w.heap.size + 3) (.slice (some ⟨w.heap.size + 3, 0, none⟩) 0 0) 0 [] rfl HR0.out a n cap (eCells es) rfl (Vals.below HI.out HG.out) (by rw [List.length_map, eInts_len, HX.out]) (ints_one _) HA.out (by omega) (by rw [HS.out]; omega) n (Nat.zero_add n) (eCells es) rfl ?_)
  intro a' cap' w1 ho hg hat
  have HO := Lib.hid ho
  have HT := Lib.hid hat
  have HB : Hid (Below (w.heap.size + 3) W0 w1) := Lib.hid ((Below.refl _ _).grown hg (by rw [HS.out]; omega) (fun g h => by simp [Value.ownBlock] at h; omega))
  clear ho hg hat
  have hz1 := HB.out.size
  have hs := HS.out
  obtain ⟨x0, x1, x2, fx⟩ := (HQ.out.below HB.out (by omega)).three
  obtain ⟨y0, y1, y2, fy⟩ := (HY.out.below HB.out (by omega)).three
  obtain ⟨u0, u1, u2, fu⟩ := (HU.out.below HB.out (by omega)).three
  rw [hs] at hz1
  clear hs
  go_wp2
  have hq : Below w.heap.size w w1 := HG.out.trans (HB.out.mono (by omega))
  have hblk : (Value.slice a' n cap').ownBlock ≠ some (w.heap.size + 1) ∧ (Value.slice a' n cap').ownBlock ≠ some (w.heap.size + 2) := by
    rcases HT.out with h | h
    · rw [h]; exact ⟨fun e => by simp [Value.ownBlock] at e, fun e => by simp [Value.ownBlock] at e⟩
    · rw [h, HS.out]; exact ⟨fun e => by injection e; omega, fun e => by injection e; omega⟩
  refine bodyPost_ret (v := .agg #[.int .i64 sz, .int .i64 st, .slice a' n cap']) (by simp [results, Try.results66, go_sem, y0, y1, y2]) rfl ?_
  obtain rfl := HX.out
  have hsm : ∃ g, a' = some ⟨g, 0, none⟩ := by
    rcases HT.out with h | h
    · exact ⟨_, own_some HO.out (h.trans rfl)⟩
    · exact ⟨_, own_some HO.out h⟩
  refine ⟨a', cap', rfl, ?_, below_grown ?_, hsm⟩
  · exact row_wider (row_set (row_set (row_set (row_set HO.out _ _ hblk.2) _ _ hblk.1) _ _ hblk.1) _ _ hblk.1) (by omega)
  · go_grown
set_option maxHeartbeats 1600000 in
theorem s_copy (sz st : Int) (a : Option Addr) (n cap : Nat) (es : List E7) (w : World) (hxs : es.length = n) (hn : n ≤ 1048576) (h : Ents w a es) (ha : a = none → n = 0 ∧ cap = 0) :
    Calls Try.prog 89 #[.agg #[.int .i64 sz, .int .i64 st, .slice a n cap]] w (RetTabN w sz st es) := by
  obtain ⟨W, hW, gW, sW, bx, by1⟩ := headB w 30 30 [.int .i64 sz, .int .i64 st, .slice a n cap] [.int .i64 0, .int .i64 0, .slice none 0 0]
  have HX := Lib.hid hxs
  have HG := Lib.hid gW
  have HW := Lib.hid hW
  have HS := Lib.hid sW
  have HA := Lib.hid ha
  have HBX := Lib.hid bx
  have HBY := Lib.hid by1
  have HI := Lib.hid (Ints.vals (h.below gW))
  obtain ⟨x0, x1, x2, fx⟩ := bx.three
  clear hxs gW hW sW ha bx by1 h fx
  go_enter Try.func89, Try.ntmps89
  go_wp2_with fail
  rw [← HW.out]
  have hW2 : w.heap.size < W.heap.size := by have := HS.out; omega
  have H1 : Hid ((W.alloc (.cells #[] 69)).drew.ownsRow W.heap.size 69 7 (.slice (some ⟨W.heap.size, 0, none⟩) 0 0) 0 []) := Lib.hid (row_emp W _ _ _ rfl (Nat.le_refl _)).drew
  have A1 : Hid (Below W.heap.size W (W.alloc (.cells #[] 69)).drew) := Lib.hid ((Below.refl _ _).alloc (Nat.le_refl _) _).drew
  have hw1 : w.heap.size + 1 < W.heap.size := by have := HS.out; omega
  have HL := Lib.hid (show (eCells es).length = n * 7 by rw [List.length_map, eInts_len, HX.out])
  have HY1 : Hid (Box (W.alloc (.cells #[] 69)).drew (w.heap.size + 1) 30 [.int .i64 0, .int .i64 0, .slice none 0 0]) := Lib.hid (HBY.out.alloc _).drew
  go_region_held3 (fun w' => w'.cell? ⟨w.heap.size, 0, none⟩ = some (.int .i64 sz) ∧ w'.cell? ⟨w.heap.size, 1, none⟩ = some (.int .i64 st) ∧ w'.cell? ⟨w.heap.size, 2, none⟩ = some (.slice a n cap)) (first | (with_reducible exact ⟨keepD0 x0, keepD0 x1, keepD0 x2⟩) | (with_reducible exact ⟨keepD1 x0 _, keepD1 x1 _, keepD1 x2 _⟩) | (with_reducible exact ⟨kk0, kk1, kk2⟩) | (with_reducible exact ⟨keepS kk0 (by omega), keepS kk1 (by omega), keepS kk2 (by omega)⟩) | (trace "KEEP"; trace_state; fail))
      (first
        | (refine step_appA _ rfl elemEntry (.tmp 7) (.tmp 9) rfl W.heap.size (.slice (some ⟨W.heap.size, 0, none⟩) 0 0) 0 [] rfl H1.out a n cap (eCells es) rfl (Vals.below HI.out A1.out) HL.out (ints_one _) HA.out (by omega) (by simp) n (Nat.zero_add n) (eCells es) rfl ?_
           intro a5 c5 w5 hown5 hgrow5 hat5
           have HO5 := Lib.hid hown5
           have HB5 : Hid (Below W.heap.size W w5) := Lib.hid (A1.out.grown hgrow5 (by simp) (by simp [Value.ownBlock]))
           have HZ5 : Hid ((Value.slice a5 n c5).ownBlock = some W.heap.size ∨ (Value.slice a5 n c5).ownBlock = some (W.heap.size + 1)) := Lib.hid (by simpa [Value.ownBlock] using hat5)
           have HY5 : Hid (Box w5 (w.heap.size + 1) 30 [.int .i64 0, .int .i64 0, .slice none 0 0]) := Lib.hid (HY1.out.kept hgrow5 (by simp [Value.ownBlock]; omega))
           obtain ⟨m0, m1, m2, mf⟩ := HY5.out.three
           have kk0 : w5.cell? ⟨w.heap.size, 0, none⟩ = some (.int .i64 sz) := hgrow5.cell (keep x0 _) (by simp [Value.ownBlock]; omega)
           have kk1 : w5.cell? ⟨w.heap.size, 1, none⟩ = some (.int .i64 st) := hgrow5.cell (keep x1 _) (by simp [Value.ownBlock]; omega)
           have kk2 : w5.cell? ⟨w.heap.size, 2, none⟩ = some (.slice a n cap) := hgrow5.cell (keep x2 _) (by simp [Value.ownBlock]; omega)))
  have hne : (Value.slice a5 n c5).ownBlock ≠ some (w.heap.size + 1) := by rcases HZ5.out with h | h <;> rw [h] <;> intro e <;> injection e with e <;> omega
  go_wp2_with fail
  refine bodyPost_ret (v := .agg #[.int .i64 sz, .int .i64 st, .slice a5 n c5]) (by simp [results, Try.results89, go_sem, m0, m1, m2]) rfl ?_
  obtain rfl := HX.out
  have hsm : ∃ g, a5 = some ⟨g, 0, none⟩ := by
    rcases HZ5.out with h | h
    · exact ⟨_, own_some HO5.out h⟩
    · exact ⟨_, own_some HO5.out h⟩
  have hb : Below w.heap.size w w5 := HG.out.trans (HB5.out.mono (by omega))
  refine ⟨a5, c5, rfl, ?_, below_grown ?_, hsm⟩
  · exact row_wider (row_set (row_set (row_set HO5.out _ _ hne) _ _ hne) _ _ hne) (by omega)
  · go_grown
/-- When the last packet came, or 0. -/
def lastOf (es : List E7) : Int := if es.length = 0 then 0 else (es.getD (es.length - 1) e0).2.2
theorem s_last (sz st : Int) (a : Option Addr) (n cap : Nat) (es : List E7) (w : World) (hxs : es.length = n) (hn : n ≤ 1048576) (h : Ents w a es) :
    Calls Try.prog 88 #[.agg #[.int .i64 sz, .int .i64 st, .slice a n cap]] w fun e w' => e = .returned (.int .i64 (lastOf es)) ∧ Below w.heap.size w w' := by
  obtain ⟨W, hW, gW, sW, bx⟩ := head1 w 30 [.int .i64 sz, .int .i64 st, .slice a n cap]
  have HR : Hid (lastOf es = if n = 0 then 0 else (es.getD (n - 1) e0).2.2) := Lib.hid (by rw [lastOf, hxs])
  by_cases h0 : n = 0
  · subst h0
    have HR2 := Lib.hid (HR.out.trans (if_pos rfl))
    clear hxs h hn bx HR sW
    go_enter Try.func88, Try.ntmps88
    go_wp2
    go_ret
    exact ⟨ret_int HR2.out.symm, by rw [← hW]; exact gW⟩
  · have HR2 := Lib.hid (HR.out.trans (if_neg h0))
    obtain ⟨b, off, rfl, hb, hc⟩ := (h.below gW).at hxs (k := n - 1) (by omega)
    obtain ⟨_, _, _, _, _, _, c6⟩ := hc (n - 1) (by omega)
    rw [hW] at c6
    have hi1 : IntKind.i64.wrap ((n : Int) - 1) = (n : Int) - 1 := IntWalk.i64_in _ (by omega)
    have hi2 : ((n : Int) - 1).toNat = n - 1 := by omega
    have hi3 : 0 ≤ (n : Int) - 1 := by omega
    have hi4 : (n : Int) - 1 < (n : Int) := by omega
    have h0' : ¬ (n : Int) = 0 := by omega
    have HGW := Lib.hid gW
    have HW := Lib.hid hW
    clear hxs h hn bx HR hc sW hW gW hb
    generalize (es.getD (n - 1) e0).2.2 = M at *
    go_enter Try.func88, Try.ntmps88
    go_wp2
    go_ret
    exact ⟨ret_int HR2.out.symm, by rw [← HW.out]; exact HGW.out⟩
/-- A time is one, and not before any entry. -/
def fitB (es : List E7) (now : Int) : Bool := inB now 0 100000 && decide (lastOf es ≤ now)
theorem c_fits (sz st now : Int) (a : Option Addr) (n cap : Nat) (es : List E7) (w : World) (hxs : es.length = n) (hn : n ≤ 1048576) (h : Ents w a es) :
    Calls Try.prog 71 #[.agg #[.int .i64 sz, .int .i64 st, .slice a n cap], .int .i64 now] w fun e w' => e = .returned (.bool (fitB es now)) ∧ Below w.heap.size w w' := by
  obtain ⟨W, hW, gW, sW, bx⟩ := head1 w 30 [.int .i64 sz, .int .i64 st, .slice a n cap]
  have HR : Hid (lastOf es = if n = 0 then 0 else (es.getD (n - 1) e0).2.2) := Lib.hid (by rw [lastOf, hxs])
  have HF : Hid (fitB es now = (inB now 0 100000 && decide (lastOf es ≤ now))) := Lib.hid rfl
  cases h1 : inB now 0 100000
  · have HR2 : Hid (fitB es now = false) := Lib.hid (by rw [HF.out, h1]; rfl)
    clear hxs h hn bx HR sW HF
    go_enter Try.func71, Try.ntmps71
    go_wp2_with (go_at_call 64; refine (c_isTime _ _).mono ?_; rintro e w' ⟨rfl, rfl⟩)
    go_ret
    exact ⟨ret_bool HR2.out.symm, by rw [← hW]; exact gW⟩
  by_cases h0 : n = 0
  · subst h0
    have HR2 : Hid (fitB es now = true) := Lib.hid (by rw [HF.out, h1, HR.out, if_pos rfl, decide_eq_true (inB_true.1 h1).1]; rfl)
    clear hxs h hn bx HR sW HF
    go_enter Try.func71, Try.ntmps71
    go_wp2_with (go_at_call 64; refine (c_isTime _ _).mono ?_; rintro e w' ⟨rfl, rfl⟩)
    go_ret
    exact ⟨ret_bool HR2.out.symm, by rw [← hW]; exact gW⟩
  · have HR2 : Hid (fitB es now = decide ((es.getD (n - 1) e0).2.2 ≤ now)) := Lib.hid (by rw [HF.out, h1, HR.out, if_neg h0]; rfl)
    obtain ⟨b, off, rfl, hb, hc⟩ := (h.below gW).at hxs (k := n - 1) (by omega)
    obtain ⟨_, _, _, _, _, _, c6⟩ := hc (n - 1) (by omega)
    rw [hW] at c6
    have hi1 : IntKind.i64.wrap ((n : Int) - 1) = (n : Int) - 1 := IntWalk.i64_in _ (by omega)
    have hi2 : ((n : Int) - 1).toNat = n - 1 := by omega
    have hi3 : 0 ≤ (n : Int) - 1 := by omega
    have hi4 : (n : Int) - 1 < (n : Int) := by omega
    have h0' : ((n : Int) == 0) = false := beq_eq_false_iff_ne.2 (by omega)
    have HGW := Lib.hid gW
    have HW := Lib.hid hW
    clear hxs h hn bx HR hc sW hW gW hb HF
    generalize (es.getD (n - 1) e0).2.2 = M at *
    go_enter Try.func71, Try.ntmps71
    go_wp2_with (go_at_call 64; refine (c_isTime _ _).mono ?_; rintro e w' ⟨rfl, rfl⟩)
    go_ret
    exact ⟨ret_bool HR2.out.symm, by rw [← HW.out]; exact HGW.out⟩
end Go.Proofs.Ytdkdfehlmphikaa
/- TableValid of the program. No condition but lists of at most 2^20 entries. -/
namespace Go.Proofs.Ytdkdfehlmphikaa
open Go.RowKit
/-- What only turned a block that is new has turned nothing that was there. -/
theorem below_row {w0 w1 w2 : World} {b : Nat} (h : Below w0.heap.size w0 w1) (hg : w1.grownBy w2 (some b)) (hb : w0.heap.size ≤ b) : Below w0.heap.size w0 w2 :=
  h.grown hg h.size (fun g hg => by cases hg; exact hb)
set_option maxRecDepth 100000 in
set_option maxHeartbeats 8000000 in
theorem c_TableValid (sz st : Int) (a : Option Addr) (n cap : Nat) (es : List E7) (w : World) (hxs : es.length = n) (hn : n ≤ 1048576) (h : Ents w a es) :
    Calls Try.prog 20 #[.agg #[.int .i64 sz, .int .i64 st, .slice a n cap]] w fun e w' => e = .returned (.bool (tv sz st es)) ∧ Below w.heap.size w w' := by
  have HX := Lib.hid hxs
  have HI := Lib.hid h
  clear h hxs
  have g0 : Below w.heap.size w (w.alloc (.cells #[.int .i64 sz, .int .i64 st, .slice a n cap] 30)) := (Below.refl _ _).alloc (Nat.le_refl _) _
  have HG0 := Lib.hid g0
  clear g0
  have HQ : Hid (tv sz st es = (inB sz 1 12 && inB st 1 100000 && decide ((es.length : Int) ≤ sz) && (List.range es.length).all (eOk es))) := Lib.hid rfl
  cases h1 : inB sz 1 12
  · go_enter Try.func20, Try.ntmps20
    go_wp2_with (go_at_call 63; refine (c_in _ _ _ _).mono ?_; rintro e w' ⟨rfl, rfl⟩)
    go_ret
    exact ⟨ret_bool (by rw [HQ.out, h1]; rfl), HG0.out⟩
  cases h2 : inB st 1 100000
  · go_enter Try.func20, Try.ntmps20
    go_wp2_with (go_at_call 63; refine (c_in _ _ _ _).mono ?_; rintro e w' ⟨rfl, rfl⟩)
    go_ret
    exact ⟨ret_bool (by rw [HQ.out, h1, h2]; rfl), HG0.out⟩
  by_cases h3 : (n : Int) ≤ sz
  rotate_left
  · have h3' : sz < (n : Int) := by omega
    go_enter Try.func20, Try.ntmps20
    go_wp2_with (go_at_call 63; refine (c_in _ _ _ _).mono ?_; rintro e w' ⟨rfl, rfl⟩)
    go_ret
    exact ⟨ret_bool (by rw [HQ.out, HX.out, decide_eq_false (show ¬ (n : Int) ≤ sz by omega)]; simp), HG0.out⟩
  have h3' : ¬ sz < (n : Int) := by omega
  have HQ2 : Hid ((inB sz 1 12 && inB st 1 100000 && decide ((es.length : Int) ≤ sz)) = true) := Lib.hid (by rw [h1, h2, HX.out, decide_eq_true h3]; rfl)
  have hmm := @run_makeMap Try.prog
  go_enter Try.func20, Try.ntmps20
  go_wp2_with (go_at_call 63; refine (c_in _ _ _ _).mono ?_; rintro e w' ⟨rfl, rfl⟩)
  clear HG0 HQ hmm
  go_loopw [28] (fun i wr => ∃ (k : Nat), k ≤ n ∧ i = .int .i64 k ∧ Below w.heap.size w wr ∧ Box wr w.heap.size 30 [.int .i64 sz, .int .i64 st, .slice a n cap] ∧ Seen wr (w.heap.size + 1) k ((es.take k).map (·.1)) ∧ Hid (∀ j, j < k → eOk es j = true)) (fun i _ => n - (intOf i).toNat)
  case atStart =>
    refine ⟨0, Nat.zero_le _, rfl, by go_grown, (Box.new _ _ _).alloc _, ?_, Lib.hid fun j hj => by omega⟩
    have := Seen.made (w.alloc (.cells #[.int .i64 sz, .int .i64 st, .slice a n cap] 30))
    rwa [World.size_alloc] at this
  case round =>
    obtain ⟨k, hk, rfl, hG, hB, hS, HV⟩ := hrel
    have HG := Lib.hid hG
    have HBX := Lib.hid hB
    have HSN := Lib.hid hS
    have hz := hG.size
    have hsz : w.heap.size + 1 < wr.heap.size := hS.lt
    clear hG hB hS
    by_cases hlt : k < n
    · obtain ⟨b, off, rfl, hb, hc⟩ := (HI.out.below HG.out).at HX.out hlt
      obtain ⟨c0, c1, c2, c3, c4, c5, c6⟩ := hc k hlt
      have hcp := Lib.hid (fun (_ : 0 < k) => (hc (k - 1) (by omega)).2.2.2.2.2.2)
      have HT : Hid (eOk es k = (fv (es.getD k e0).1 && !(decide ((es.getD k e0).1 ∈ (es.take k).map (·.1))) && inB (es.getD k e0).2.1 0 30 && inB (es.getD k e0).2.2 0 100000 && (decide (k = 0) || decide ((es.getD (k - 1) e0).2.2 ≤ (es.getD k e0).2.2)))) := Lib.hid rfl
      have hcy0 := hcp
      clear hc hcp
      generalize hE : es.getD k e0 = E at *
      obtain ⟨⟨x0, x1, x2, x3, x4⟩, x5, x6⟩ := E
      have HF : Hid ((es.getD k e0).1 = (x0, x1, x2, x3, x4)) := Lib.hid (by rw [hE])
      clear hE
      dsimp only at c0 c1 c2 c3 c4 c5 c6
      have HE := Lib.hid (Box.new wr 69 [.int .i64 x0, .int .i64 x1, .int .i64 x2, .int .i64 x3, .int .i64 x4, .int .i64 x5, .int .i64 x6])
      obtain ⟨y0, y1, y2, y3, y4, y5, y6, fy⟩ := HE.out.seven
      have a0 := aft_cell y0
      have a1 := aft_cell y1
      have a2 := aft_cell y2
      have a3 := aft_cell y3
      have a4 := aft_cell y4
      have a5 := aft_cell y5
      have a6 := aft_cell y6
      have t2 := aft_cell ((HBX.out.alloc (.cells #[.int .i64 x0, .int .i64 x1, .int .i64 x2, .int .i64 x3, .int .i64 x4, .int .i64 x5, .int .i64 x6] 69)).three).2.2.1
      clear y0 y1 y2 y3 y4 y5 y6 fy
      have hz2 : w.heap.size ≤ (wr.alloc (.cells #[.int .i64 x0, .int .i64 x1, .int .i64 x2, .int .i64 x3, .int .i64 x4, .int .i64 x5, .int .i64 x6] 69)).heap.size := by simp; omega
      have HG2 := Lib.hid (HG.out.alloc hz (.cells #[.int .i64 x0, .int .i64 x1, .int .i64 x2, .int .i64 x3, .int .i64 x4, .int .i64 x5, .int .i64 x6] 69))
      have HSN2 := Lib.hid (HSN.out.kept (World.grownBy_alloc _ (.cells #[.int .i64 x0, .int .i64 x1, .int .i64 x2, .int .i64 x3, .int .i64 x4, .int .i64 x5, .int .i64 x6] 69) none) (by simp))
      cases h5 : fv (x0, x1, x2, x3, x4)
      · have HBad : Hid (eOk es k = false) := Lib.hid (by rw [HT.out]; simp [h5])
        go_wp2
        have HR := Lib.hid (tv_not (sz := sz) (st := st) (es := es) (k := k) (by have := HX.out; omega) HBad.out)
        refine wp_region_quietC (by kernel_rfl) (by kernel_rfl) ?_
        repeat (go_big_quiet_step ((first
          | (go_at_call 62; exact aft_call (c_FlowValid (x0, x1, x2, x3, x4) _))
          | (go_at_call 63; exact aft_same (q_in _ _ _ _))
          | (go_at_call 64; exact aft_same (q_isTime _ _)))))
        refine wpQuiet_nil ?_
        rintro _ ⟨⟨w6, hb6⟩, rfl⟩
        have HB6 := Lib.hid (Below.step HG2.out hb6 hz2)
        clear hb6
        go_wp2
        go_ret
        exact ⟨ret_bool HR.out.symm, HB6.out⟩
      have hfv := Lib.hid h5
      have HLK := Lib.hid (fun (m : Aft (wr.alloc (.cells #[.int .i64 x0, .int .i64 x1, .int .i64 x2, .int .i64 x3, .int .i64 x4, .int .i64 x5, .int .i64 x6] 69))) => (HSN2.out.below m.le).look hfv.out)
      by_cases h6 : (x0, x1, x2, x3, x4) ∈ (es.take k).map (·.1)
      · have hlk : ∀ m : Aft (wr.alloc (.cells #[.int .i64 x0, .int .i64 x1, .int .i64 x2, .int .i64 x3, .int .i64 x4, .int .i64 x5, .int .i64 x6] 69)), (Instr.lookup 91 (.map (some (w.heap.size + 1))) (.agg #[.int .i64 x0, .int .i64 x1, .int .i64 x2, .int .i64 x3, .int .i64 x4]) false).run Try.prog m.W = .ok (.bool true) m.W := fun m => by
          have := HLK.out m
          rw [decide_eq_true h6] at this
          exact this
        have HBad : Hid (eOk es k = false) := Lib.hid (by rw [HT.out]; simp only [decide_eq_true h6]; simp)
        clear h6
        go_wp2
        have HR := Lib.hid (tv_not (sz := sz) (st := st) (es := es) (k := k) (by have := HX.out; omega) HBad.out)
        refine wp_region_quietC (by kernel_rfl) (by kernel_rfl) ?_
        repeat (go_big_quiet_step ((first
          | (go_at_call 62; exact aft_call (c_FlowValid (x0, x1, x2, x3, x4) _))
          | (go_at_call 63; exact aft_same (q_in _ _ _ _))
          | (go_at_call 64; exact aft_same (q_isTime _ _)))))
        refine wpQuiet_nil ?_
        rintro _ ⟨⟨w6, hb6⟩, rfl⟩
        have HB6 := Lib.hid (Below.step HG2.out hb6 hz2)
        clear hb6
        go_wp2
        go_ret
        exact ⟨ret_bool HR.out.symm, HB6.out⟩
      have hlk : ∀ m : Aft (wr.alloc (.cells #[.int .i64 x0, .int .i64 x1, .int .i64 x2, .int .i64 x3, .int .i64 x4, .int .i64 x5, .int .i64 x6] 69)), (Instr.lookup 91 (.map (some (w.heap.size + 1))) (.agg #[.int .i64 x0, .int .i64 x1, .int .i64 x2, .int .i64 x3, .int .i64 x4]) false).run Try.prog m.W = .ok (.bool false) m.W := fun m => by
        have := HLK.out m
        rw [decide_eq_false h6] at this
        exact this
      have HT2 : Hid (eOk es k = (inB x5 0 30 && inB x6 0 100000 && (decide (k = 0) || decide ((es.getD (k - 1) e0).2.2 ≤ x6)))) := Lib.hid (by rw [HT.out]; simp only [decide_eq_false h6, h5]; simp)
      clear h6 HT HLK
      cases h7 : inB x5 0 30
      · have HBad : Hid (eOk es k = false) := Lib.hid (by rw [HT2.out, h7]; rfl)
        go_wp2
        have HR := Lib.hid (tv_not (sz := sz) (st := st) (es := es) (k := k) (by have := HX.out; omega) HBad.out)
        refine wp_region_quietC (by kernel_rfl) (by kernel_rfl) ?_
        repeat (go_big_quiet_step ((first
          | (go_at_call 62; exact aft_call (c_FlowValid (x0, x1, x2, x3, x4) _))
          | (go_at_call 63; exact aft_same (q_in _ _ _ _))
          | (go_at_call 64; exact aft_same (q_isTime _ _)))))
        refine wpQuiet_nil ?_
        rintro _ ⟨⟨w6, hb6⟩, rfl⟩
        have HB6 := Lib.hid (Below.step HG2.out hb6 hz2)
        clear hb6
        go_wp2
        go_ret
        exact ⟨ret_bool HR.out.symm, HB6.out⟩
      cases h8 : inB x6 0 100000
      · have HBad : Hid (eOk es k = false) := Lib.hid (by rw [HT2.out, h7, h8]; rfl)
        go_wp2
        have HR := Lib.hid (tv_not (sz := sz) (st := st) (es := es) (k := k) (by have := HX.out; omega) HBad.out)
        refine wp_region_quietC (by kernel_rfl) (by kernel_rfl) ?_
        repeat (go_big_quiet_step ((first
          | (go_at_call 62; exact aft_call (c_FlowValid (x0, x1, x2, x3, x4) _))
          | (go_at_call 63; exact aft_same (q_in _ _ _ _))
          | (go_at_call 64; exact aft_same (q_isTime _ _)))))
        refine wpQuiet_nil ?_
        rintro _ ⟨⟨w6, hb6⟩, rfl⟩
        have HB6 := Lib.hid (Below.step HG2.out hb6 hz2)
        clear hb6
        go_wp2
        go_ret
        exact ⟨ret_bool HR.out.symm, HB6.out⟩
      by_cases hk0 : k = 0
      · have HGood : Hid (eOk es k = true) := Lib.hid (by rw [HT2.out, h7, h8, decide_eq_true hk0]; rfl)
        have hk1 : decide (0 < k) = false := by simp; omega
        clear hk0 HT2
        go_wp2
        refine wp_region_quietC (by kernel_rfl) (by kernel_rfl) ?_
        repeat (go_big_quiet_step ((first
          | (go_at_call 62; exact aft_call (c_FlowValid (x0, x1, x2, x3, x4) _))
          | (go_at_call 63; exact aft_same (q_in _ _ _ _))
          | (go_at_call 64; exact aft_same (q_isTime _ _)))))
        refine wpQuiet_nil ?_
        rintro _ ⟨⟨w6, hb6⟩, rfl⟩
        have HB6 := Lib.hid hb6
        obtain ⟨v0, v1, v2, v3, v4, v5, v6, fv6⟩ := (HE.out.keep HB6.out).seven
        have HBX6 := Lib.hid ((HBX.out.alloc _).keep HB6.out)
        have HSN6 := Lib.hid ((HSN.out.kept (World.grownBy_alloc _ _ none) (by simp)).below HB6.out)
        have hlt6 := HSN6.out.lt
        clear hb6
        go_wp2_with (at_mapUpdate; refine wpl_seen _ rfl _ _ _ rfl (w.heap.size + 1) k _ rfl HSN6.out (by unfold maxLen; omega) (x0, x1, x2, x3, x4) hfv.out rfl rfl ?_)
        intro w7 hs7 hg7
        have HS7 := Lib.hid hs7
        have HG7 := Lib.hid hg7
        clear hs7 hg7
        go_wp2
        go_roundw
        case rel =>
          refine ⟨k + 1, by omega, by go_num, ?_, ?_, ?_, Lib.hid fun j hj => ?_⟩
          · exact below_row (Below.step HG2.out HB6.out hz2) HG7.out (by omega)
          · exact HBX6.out.kept HG7.out (by simp)
          · rw [take_flow HX.out hlt, HF.out, List.map_take]; exact HS7.out
          · by_cases hjk : j = k
            · subst hjk; exact HGood.out
            · exact HV.out j (by omega)
        case measure => simp [intOf]; omega
      have hk1 : decide (0 < k) = true := by simp; omega
      have hcy := hcy0.out (by omega)
      generalize (es.getD (k - 1) e0).2.2 = M at *
      have hcy2 := aft_cell (keep hcy (.cells #[.int .i64 x0, .int .i64 x1, .int .i64 x2, .int .i64 x3, .int .i64 x4, .int .i64 x5, .int .i64 x6] 69))
      have hi1 : IntKind.i64.wrap ((k : Int) - 1) = (k : Int) - 1 := IntWalk.i64_in _ (by omega)
      have hi2 : ((k : Int) - 1).toNat = k - 1 := by omega
      have hi3 : 0 ≤ (k : Int) - 1 := by omega
      have hi4 : (k : Int) - 1 < (n : Int) := by omega
      clear hcy
      by_cases hle : M ≤ x6
      · have HGood : Hid (eOk es k = true) := Lib.hid (by rw [HT2.out, h7, h8, decide_eq_true hle]; simp)
        have hle2 : decide (x6 < M) = false := by simp; omega
        clear hle HT2
        go_wp2
        refine wp_region_quietC (by kernel_rfl) (by kernel_rfl) ?_
        repeat (go_big_quiet_step ((first
          | (go_at_call 62; exact aft_call (c_FlowValid (x0, x1, x2, x3, x4) _))
          | (go_at_call 63; exact aft_same (q_in _ _ _ _))
          | (go_at_call 64; exact aft_same (q_isTime _ _)))))
        refine wpQuiet_nil ?_
        rintro _ ⟨⟨w6, hb6⟩, rfl⟩
        have HB6 := Lib.hid hb6
        obtain ⟨v0, v1, v2, v3, v4, v5, v6, fv6⟩ := (HE.out.keep HB6.out).seven
        have HBX6 := Lib.hid ((HBX.out.alloc _).keep HB6.out)
        have HSN6 := Lib.hid ((HSN.out.kept (World.grownBy_alloc _ _ none) (by simp)).below HB6.out)
        have hlt6 := HSN6.out.lt
        clear hb6
        go_wp2_with (at_mapUpdate; refine wpl_seen _ rfl _ _ _ rfl (w.heap.size + 1) k _ rfl HSN6.out (by unfold maxLen; omega) (x0, x1, x2, x3, x4) hfv.out rfl rfl ?_)
        intro w7 hs7 hg7
        have HS7 := Lib.hid hs7
        have HG7 := Lib.hid hg7
        clear hs7 hg7
        go_wp2
        go_roundw
        case rel =>
          refine ⟨k + 1, by omega, by go_num, ?_, ?_, ?_, Lib.hid fun j hj => ?_⟩
          · exact below_row (Below.step HG2.out HB6.out hz2) HG7.out (by omega)
          · exact HBX6.out.kept HG7.out (by simp)
          · rw [take_flow HX.out hlt, HF.out, List.map_take]; exact HS7.out
          · by_cases hjk : j = k
            · subst hjk; exact HGood.out
            · exact HV.out j (by omega)
        case measure => simp [intOf]; omega
      · have HBad : Hid (eOk es k = false) := Lib.hid (by rw [HT2.out, h7, h8, decide_eq_false hk0, decide_eq_false (show ¬ M ≤ x6 by omega)]; rfl)
        have hle2 : decide (x6 < M) = true := by simp; omega
        clear hle HT2
        go_wp2
        have HR := Lib.hid (tv_not (sz := sz) (st := st) (es := es) (k := k) (by have := HX.out; omega) HBad.out)
        refine wp_region_quietC (by kernel_rfl) (by kernel_rfl) ?_
        repeat (go_big_quiet_step ((first
          | (go_at_call 62; exact aft_call (c_FlowValid (x0, x1, x2, x3, x4) _))
          | (go_at_call 63; exact aft_same (q_in _ _ _ _))
          | (go_at_call 64; exact aft_same (q_isTime _ _)))))
        refine wpQuiet_nil ?_
        rintro _ ⟨⟨w6, hb6⟩, rfl⟩
        have HB6 := Lib.hid (Below.step HG2.out hb6 hz2)
        clear hb6
        go_wp2
        go_ret
        exact ⟨ret_bool HR.out.symm, HB6.out⟩
    · obtain rfl : k = n := by omega
      have HR := Lib.hid (tv_of (sz := sz) (st := st) (es := es) (by rw [HX.out]; exact HV.out))
      go_wp2
      go_ret
      exact ⟨ret_bool (by rw [HR.out, HQ2.out]), HG.out⟩
end Go.Proofs.Ytdkdfehlmphikaa
/- DropFlow of the program. No condition but lists of at most 2^20 entries. -/
namespace Go.Proofs.Ytdkdfehlmphikaa
open Go.RowKit
/-- A table: size, stay, entries. -/
abbrev T3 := Int × Int × List E7
/-- A table without a flow. -/
def dropT (t : T3) (f : F5) : T3 := if tv t.1 t.2.1 t.2.2 = true then (t.1, t.2.1, t.2.2.filter (fun e => !decide (e.1 = f))) else (0, 0, [])
/-- A table is handed back, its list a new one. -/
def RetT (w : World) (t : T3) (e : Ending) (w' : World) : Prop := RetTab w t.1 t.2.1 t.2.2 e w'
theorem retZero (w w' : World) (h : Below w.heap.size w w') : RetT w (0, 0, []) (.returned (.agg #[.int .i64 0, .int .i64 0, .slice none 0 0])) w' :=
  ⟨none, 0, rfl, row_nil _ _ _ _, below_grown h⟩
theorem none_len {a : Option Addr} {n cap : Nat} {w : World} {base : Nat} {es : List E7} (h : EntRow w base a n cap es) (p : E7 → Bool) : a = none → (es.filter p).length = 0 ∧ cap = 0 := fun ha => by
  obtain ⟨h1, h2⟩ := own_none h ha
  have := h.len
  rw [h1] at this
  rw [List.eq_nil_of_length_eq_zero this]
  exact ⟨rfl, h2⟩
set_option maxRecDepth 100000 in
set_option maxHeartbeats 4000000 in
theorem c_DropFlow (sz st : Int) (f : F5) (a : Option Addr) (n cap : Nat) (es : List E7) (w : World) (hxs : es.length = n) (hn : n ≤ 1048576) (h : Ents w a es) (ha : a = none → n = 0 ∧ cap = 0) :
    Calls Try.prog 43 #[.agg #[.int .i64 sz, .int .i64 st, .slice a n cap], fvv f] w (RetT w (dropT (sz, st, es) f)) := by
  obtain ⟨y0, y1, y2, y3, y4⟩ := f
  unfold fvv
  obtain ⟨W, hW, gW, sW, bt, bf, br⟩ := head3 w 30 37 30 [.int .i64 sz, .int .i64 st, .slice a n cap] [.int .i64 y0, .int .i64 y1, .int .i64 y2, .int .i64 y3, .int .i64 y4] [.int .i64 0, .int .i64 0, .slice none 0 0]
  have HX := Lib.hid hxs
  have HW := Lib.hid hW
  have HG := Lib.hid gW
  have HS := Lib.hid sW
  have HA := Lib.hid ha
  have HE := Lib.hid (h.below gW)
  have HBT := Lib.hid bt
  have HBF := Lib.hid bf
  have HBR := Lib.hid br
  have HQ : Hid (dropT (sz, st, es) (y0, y1, y2, y3, y4) = if tv sz st es = true then (sz, st, es.filter (fun e => !decide (e.1 = (y0, y1, y2, y3, y4)))) else (0, 0, [])) := Lib.hid rfl
  clear hxs hW gW sW ha h bt bf br
  go_enter Try.func43, Try.ntmps43
  go_wp2_with fail
  rw [← HW.out]
  (with_reducible refine (c_TableValid sz st a n cap es _ HX.out hn HE.out).mono ?_)
  rintro e w2 ⟨rfl, hb2⟩
  have HB2 := Lib.hid hb2
  have hz2 := hb2.size
  rw [HS.out] at hz2
  have HT2 := Lib.hid (HBT.out.keep hb2)
  have HF2 := Lib.hid (HBF.out.keep hb2)
  have HR2 := Lib.hid (HBR.out.keep hb2)
  have HE2 := Lib.hid (HE.out.below hb2)
  clear hb2
  obtain ⟨t0, t1, t2, ft⟩ := HT2.out.three
  obtain ⟨r0, r1, r2, fr⟩ := HR2.out.three
  cases h1 : tv sz st es
  · go_wp2
    refine bodyPost_ret (v := .agg #[.int .i64 0, .int .i64 0, .slice none 0 0]) (by simp [results, Try.results43, go_sem, r0, r1, r2]) rfl ?_
    rw [HQ.out, h1, if_neg Bool.false_ne_true]
    refine retZero w _ ?_
    have := Below.step HG.out HB2.out HG.out.size
    go_grown
  · have HQ2 := Lib.hid (HQ.out.trans (if_pos h1))
    clear HQ h1
    go_wp2_with fail
    (with_reducible refine (c_clone sz st a n cap es _ HX.out hn HE2.out HA.out).mono ?_)
    rintro e w3 ⟨a3, c3, rfl, o3, g3⟩
    rw [HX.out] at o3 ⊢
    have HB3 := Lib.hid (grown_below g3)
    have hz3 := g3.size
    have HO3 := Lib.hid o3
    have LT3 := Lib.hid o3.lt
    have HT3 := Lib.hid (HT2.out.keep HB3.out)
    have HF3 := Lib.hid (HF2.out.keep HB3.out)
    have HR3 := Lib.hid (HR2.out.keep HB3.out)
    clear o3 g3 t0 t1 t2 ft r0 r1 r2 fr
    go_wp2_with fail
    obtain ⟨W4, hW4⟩ : ∃ W4, W4 = w3.alloc (.cells #[.int .i64 sz, .int .i64 st, .slice a3 n c3] 30) := ⟨_, rfl⟩
    have HW4 := Lib.hid hW4
    have HB4 : Hid (Below w3.heap.size w3 W4) := Lib.hid (by rw [hW4]; exact (Below.refl _ _).alloc (Nat.le_refl _) _)
    have HS4 : Hid (W4.heap.size = w3.heap.size + 1) := Lib.hid (by rw [hW4]; simp)
    have HN4 : Hid (Box W4 w3.heap.size 30 [.int .i64 sz, .int .i64 st, .slice a3 n c3]) := Lib.hid (by rw [hW4]; exact Box.new _ _ _)
    have HF4 := Lib.hid (HF3.out.keep HB4.out)
    have HR4 := Lib.hid (HR3.out.keep HB4.out)
    have HO4 : Hid (EntRow W4 w2.heap.size a3 n c3 es) := Lib.hid (row_below HO3.out HB4.out)
    clear hW4
    rw [← HW4.out]
    have hbf : some (w.heap.size + 1) ≠ (Value.slice a3 n c3).ownBlock := fun e => by have := (LT3.out _ e.symm).1; omega
    have HTS : Hid (Tests 85 #[.pointer (some ⟨w.heap.size + 1, 0, none⟩)] (fun e => decide (e.1 = (y0, y1, y2, y3, y4))) es W4 (Value.slice a3 n c3).ownBlock) := Lib.hid fun e w' _ hg => by
      exact c_drop1 _ _ _ _ _ _ _ _ _ _ _ _ _ _ (HF4.out.kept hg hbf.symm)
    refine (c_DeleteE 85 _ _ w2.heap.size a3 n c3 es W4 hn HO4.out HTS.out (enters_of Try.func85 (by kernel_rfl) rfl)).mono ?_
    rintro e w5 ⟨rfl, e5, g5⟩
    have HNL := Lib.hid (none_len HO4.out (fun e => !decide (e.1 = (y0, y1, y2, y3, y4))))
    have hml : (es.filter (fun e => !decide (e.1 = (y0, y1, y2, y3, y4)))).length ≤ n := by rw [← HX.out]; exact List.length_filter_le _ _
    generalize es.filter (fun e => !decide (e.1 = (y0, y1, y2, y3, y4))) = ks at *
    obtain ⟨m, hm⟩ : ∃ m, m = ks.length := ⟨_, rfl⟩
    have HM := Lib.hid hm
    rw [← hm] at hml ⊢
    clear hm
    have HE5 := Lib.hid e5
    have hn3 : some w3.heap.size ≠ (Value.slice a3 n c3).ownBlock := fun e => by have := (LT3.out _ e.symm).2; omega
    have hr3 : some (w.heap.size + 2) ≠ (Value.slice a3 n c3).ownBlock := fun e => by have := (LT3.out _ e.symm).1; omega
    have HN5 := Lib.hid (HN4.out.kept g5 hn3.symm)
    have HR5 := Lib.hid (HR4.out.kept g5 hr3.symm)
    have HB5 : Hid (Below w2.heap.size w2 w5) := Lib.hid ((Below.step HB3.out HB4.out hz3).grown g5 (by rw [HS4.out]; omega) (fun g hg => (LT3.out g hg).1))
    have hz5 := g5.size
    rw [HS4.out] at hz5
    clear e5 g5
    obtain ⟨n0, n1, n2, fn⟩ := HN5.out.three
    go_wp2_with fail
    obtain ⟨W6, hW6⟩ : ∃ W6, W6 = w5.setCell ⟨w3.heap.size, 2, none⟩ (.slice a3 m c3) := ⟨_, rfl⟩
    have HW6 := Lib.hid hW6
    have HR6 : Hid (Box W6 (w.heap.size + 2) 30 [.int .i64 0, .int .i64 0, .slice none 0 0]) := Lib.hid (by rw [hW6]; exact HR5.out.other (by simp; omega) _)
    have HB6 : Hid (Below w2.heap.size w2 W6) := Lib.hid (by rw [hW6]; exact HB5.out.setCell (by simpa using hz3) _)
    have HE6 : Hid (Ents W6 a3 ks) := Lib.hid (by
      rw [hW6]
      refine Ints.set HE5.out _ _ fun q hq => ?_
      have := (LT3.out q.block (by rw [hq]; rfl)).2
      simp; omega)
    have hz6 : W6.heap.size = w5.heap.size := by rw [hW6]; simp
    clear hW6 n0 n1 n2 fn
    rw [← HW6.out]
    (with_reducible refine (c_clone sz st a3 m c3 ks _ HM.out.symm (by omega) HE6.out (by rw [HM.out]; exact HNL.out)).mono ?_)
    rintro e w7 ⟨a7, c7, rfl, o7, g7⟩
    have HO7 := Lib.hid o7
    have HB7 := Lib.hid (grown_below g7)
    have hz7 := g7.size
    obtain ⟨r0, r1, r2, fr⟩ := (HR6.out.keep HB7.out).three
    clear o7 g7
    go_wp2
    refine bodyPost_ret (v := .agg #[.int .i64 sz, .int .i64 st, .slice a7 ks.length c7]) (by simp [results, Try.results43, go_sem, r0, r1, r2]) rfl ?_
    rw [HQ2.out]
    have hne : (Value.slice a7 ks.length c7).ownBlock ≠ some (w.heap.size + 2) := fun e => by have := (HO7.out.lt _ e).1; omega
    have hb7 : Below w.heap.size w w7 := Below.step (Below.step (Below.step HG.out HB2.out HG.out.size) HB6.out (by omega)) HB7.out (by omega)
    refine ⟨a7, c7, rfl, row_wider (row_set (row_set (row_set HO7.out _ _ hne) _ _ hne) _ _ hne) (by omega), below_grown ?_⟩
    go_grown
end Go.Proofs.Ytdkdfehlmphikaa
/- TableValid of the reference. No condition but lists of at most 2^20 entries. -/
namespace Go.Proofs.Ytdkdfehlmphikaa
open Go.RowKit
set_option maxRecDepth 100000 in
set_option maxHeartbeats 8000000 in
theorem s_TableValid (sz st : Int) (a : Option Addr) (n cap : Nat) (es : List E7) (w : World) (hxs : es.length = n) (hn : n ≤ 1048576) (hcap : n ≤ cap) (h : Ents w a es) :
    Calls Try.prog 60 #[.agg #[.int .i64 sz, .int .i64 st, .slice a n cap]] w fun e w' => e = .returned (.bool (tv sz st es)) ∧ Below w.heap.size w w' := by
  have HX := Lib.hid hxs
  have HI := Lib.hid h
  clear h hxs
  go_enter Try.func60, Try.ntmps60
  go_wp2
  go_loopw [3] (fun i wr => ∃ (k : Nat), k ≤ n ∧ i = .int .i64 k ∧ Below w.heap.size w wr ∧ Box wr w.heap.size 30 [.int .i64 sz, .int .i64 st, .slice a n cap] ∧ Hid (∀ j, j < k → eOk es j = true)) (fun i _ => n - (intOf i).toNat)
  case atStart =>
    exact ⟨0, Nat.zero_le _, rfl, (Below.refl _ _).alloc (Nat.le_refl _) _, Box.new _ _ _, Lib.hid fun j hj => by omega⟩
  case round =>
    obtain ⟨k, hk, rfl, hG, hB, HV⟩ := hrel
    have HG := Lib.hid hG
    have HBX := Lib.hid hB
    have hz := hG.size
    have hsz : w.heap.size < wr.heap.size := hB.lt
    obtain ⟨tb0, tb1, tb2, ftb⟩ := hB.three
    clear hG hB
    by_cases hlt : k < n
    · have HEn := Lib.hid (HI.out.below HG.out)
      obtain ⟨b, off, rfl, hb, hc⟩ := HEn.out.at HX.out hlt
      obtain ⟨c0, c1, c2, c3, c4, c5, c6⟩ := hc k hlt
      have hcp := Lib.hid (fun (_ : 0 < k) => (hc (k - 1) (by omega)).2.2.2.2.2.2)
      have HT : Hid (eOk es k = (fv (es.getD k e0).1 && !(decide ((es.getD k e0).1 ∈ (es.take k).map (·.1))) && inB (es.getD k e0).2.1 0 30 && inB (es.getD k e0).2.2 0 100000 && (decide (k = 0) || decide ((es.getD (k - 1) e0).2.2 ≤ (es.getD k e0).2.2)))) := Lib.hid rfl
      have hcy0 := hcp
      clear hc hcp
      generalize hE : es.getD k e0 = E at *
      obtain ⟨⟨x0, x1, x2, x3, x4⟩, x5, x6⟩ := E
      have HF : Hid ((es.getD k e0).1 = (x0, x1, x2, x3, x4)) := Lib.hid (by rw [hE])
      clear hE
      dsimp only at c0 c1 c2 c3 c4 c5 c6
      have HE := Lib.hid (Box.new wr 69 [.int .i64 x0, .int .i64 x1, .int .i64 x2, .int .i64 x3, .int .i64 x4, .int .i64 x5, .int .i64 x6])
      obtain ⟨y0, y1, y2, y3, y4, y5, y6, fy⟩ := HE.out.seven
      have a0 := aft_cell y0
      have a1 := aft_cell y1
      have a2 := aft_cell y2
      have a3 := aft_cell y3
      have a4 := aft_cell y4
      have a5 := aft_cell y5
      have a6 := aft_cell y6
      have t2 := aft_cell ((HBX.out.alloc (.cells #[.int .i64 x0, .int .i64 x1, .int .i64 x2, .int .i64 x3, .int .i64 x4, .int .i64 x5, .int .i64 x6] 69)).three).2.2.1
      clear y0 y1 y2 y3 y4 y5 y6 fy
      have hz2 : w.heap.size ≤ (wr.alloc (.cells #[.int .i64 x0, .int .i64 x1, .int .i64 x2, .int .i64 x3, .int .i64 x4, .int .i64 x5, .int .i64 x6] 69)).heap.size := by simp; omega
      have HG2 := Lib.hid (HG.out.alloc hz (.cells #[.int .i64 x0, .int .i64 x1, .int .i64 x2, .int .i64 x3, .int .i64 x4, .int .i64 x5, .int .i64 x6] 69))
      have HEn2 := Lib.hid (HEn.out.below ((Below.refl wr.heap.size wr).alloc (Nat.le_refl _) (.cells #[.int .i64 x0, .int .i64 x1, .int .i64 x2, .int .i64 x3, .int .i64 x4, .int .i64 x5, .int .i64 x6] 69)))
      have hen := fun (m : Aft (wr.alloc (.cells #[.int .i64 x0, .int .i64 x1, .int .i64 x2, .int .i64 x3, .int .i64 x4, .int .i64 x5, .int .i64 x6] 69))) => (HEn2.out.below m.le).take k
      have hlk := Lib.hid (show (es.take k).length = k by rw [List.length_take, HX.out]; omega)
      have hkc : k ≤ cap := by omega
      cases h5 : fv (x0, x1, x2, x3, x4)
      · have HBad : Hid (eOk es k = false) := Lib.hid (by rw [HT.out]; simp [h5])
        go_wp2
        have HR := Lib.hid (tv_not (sz := sz) (st := st) (es := es) (k := k) (by have := HX.out; omega) HBad.out)
        refine wp_region_quietC (by kernel_rfl) (by kernel_rfl) ?_
        repeat (go_big_quiet_step ((first
          | (go_at_call 67; exact aft_call (s_FlowValid (x0, x1, x2, x3, x4) _))
          | (go_at_call 87; exact aft_same (q_l1In' _ _ _ _))
          | (go_at_call 82; exact aft_call (c_placeV (x0, x1, x2, x3, x4) _ _ k _ (es.take k) _ hlk.out (by omega) (hen _) hpv.out)))))
        refine wpQuiet_nil ?_
        rintro _ ⟨⟨w6, hb6⟩, rfl⟩
        have HB6 := Lib.hid (Below.step HG2.out hb6 hz2)
        clear hb6
        go_wp2
        go_ret
        exact ⟨ret_bool HR.out.symm, HB6.out⟩
      have HT2 : Hid (eOk es k = (!(decide ((x0, x1, x2, x3, x4) ∈ (es.take k).map (·.1))) && inB x5 0 30 && inB x6 0 100000 && (decide (k = 0) || decide ((es.getD (k - 1) e0).2.2 ≤ x6)))) := Lib.hid (by rw [HT.out]; simp only [h5]; simp)
      clear HT
      cases h7 : inB x5 0 30
      · have HBad : Hid (eOk es k = false) := Lib.hid (by rw [HT2.out, h7]; simp)
        go_wp2
        have HR := Lib.hid (tv_not (sz := sz) (st := st) (es := es) (k := k) (by have := HX.out; omega) HBad.out)
        refine wp_region_quietC (by kernel_rfl) (by kernel_rfl) ?_
        repeat (go_big_quiet_step ((first
          | (go_at_call 67; exact aft_call (s_FlowValid (x0, x1, x2, x3, x4) _))
          | (go_at_call 87; exact aft_same (q_l1In' _ _ _ _))
          | (go_at_call 82; exact aft_call (c_placeV (x0, x1, x2, x3, x4) _ _ k _ (es.take k) _ hlk.out (by omega) (hen _) hpv.out)))))
        refine wpQuiet_nil ?_
        rintro _ ⟨⟨w6, hb6⟩, rfl⟩
        have HB6 := Lib.hid (Below.step HG2.out hb6 hz2)
        clear hb6
        go_wp2
        go_ret
        exact ⟨ret_bool HR.out.symm, HB6.out⟩
      cases h8 : inB x6 0 100000
      · have HBad : Hid (eOk es k = false) := Lib.hid (by rw [HT2.out, h7, h8]; simp)
        go_wp2
        have HR := Lib.hid (tv_not (sz := sz) (st := st) (es := es) (k := k) (by have := HX.out; omega) HBad.out)
        refine wp_region_quietC (by kernel_rfl) (by kernel_rfl) ?_
        repeat (go_big_quiet_step ((first
          | (go_at_call 67; exact aft_call (s_FlowValid (x0, x1, x2, x3, x4) _))
          | (go_at_call 87; exact aft_same (q_l1In' _ _ _ _))
          | (go_at_call 82; exact aft_call (c_placeV (x0, x1, x2, x3, x4) _ _ k _ (es.take k) _ hlk.out (by omega) (hen _) hpv.out)))))
        refine wpQuiet_nil ?_
        rintro _ ⟨⟨w6, hb6⟩, rfl⟩
        have HB6 := Lib.hid (Below.step HG2.out hb6 hz2)
        clear hb6
        go_wp2
        go_ret
        exact ⟨ret_bool HR.out.symm, HB6.out⟩
      by_cases hk0 : k = 0
      · have hk1 : decide (0 < k) = false := by simp; omega
        rcases pOf_cases (es.take k) (x0, x1, x2, x3, x4) with ⟨hno, hpo⟩ | ⟨hyes, jp, hpo, _⟩
        · have HGood : Hid (eOk es k = true) := Lib.hid (by rw [HT2.out, h7, h8, decide_eq_false hno, decide_eq_true hk0]; simp)
          have hpv := Lib.hid hpo
          clear hno hpo HT2 hk0
          go_wp2
          refine wp_region_quietC (by kernel_rfl) (by kernel_rfl) ?_
          repeat (go_big_quiet_step ((first
            | (go_at_call 67; exact aft_call (s_FlowValid (x0, x1, x2, x3, x4) _))
            | (go_at_call 87; exact aft_same (q_l1In' _ _ _ _))
            | (go_at_call 82; exact aft_call (c_placeV (x0, x1, x2, x3, x4) _ _ k _ (es.take k) _ hlk.out (by omega) (hen _) hpv.out)))))
          refine wpQuiet_nil ?_
          rintro _ ⟨⟨w6, hb6⟩, rfl⟩
          have HB6 := Lib.hid hb6
          have HBX6 := Lib.hid ((HBX.out.alloc _).keep HB6.out)
          clear hb6
          go_wp2
          go_roundw
          case rel =>
            refine ⟨k + 1, by omega, by go_num, ?_, ?_, Lib.hid fun j hj => ?_⟩
            · exact Below.step HG2.out HB6.out hz2
            · exact HBX6.out
            · by_cases hjk : j = k
              · subst hjk; exact HGood.out
              · exact HV.out j (by omega)
          case measure => simp [intOf]; omega
        · have HBad : Hid (eOk es k = false) := Lib.hid (by rw [HT2.out, decide_eq_true hyes]; rfl)
          have hpv := Lib.hid hpo
          clear hyes hpo HT2 hk0
          go_wp2
          have HR := Lib.hid (tv_not (sz := sz) (st := st) (es := es) (k := k) (by have := HX.out; omega) HBad.out)
          refine wp_region_quietC (by kernel_rfl) (by kernel_rfl) ?_
          repeat (go_big_quiet_step ((first
            | (go_at_call 67; exact aft_call (s_FlowValid (x0, x1, x2, x3, x4) _))
            | (go_at_call 87; exact aft_same (q_l1In' _ _ _ _))
            | (go_at_call 82; exact aft_call (c_placeV (x0, x1, x2, x3, x4) _ _ k _ (es.take k) _ hlk.out (by omega) (hen _) hpv.out)))))
          refine wpQuiet_nil ?_
          rintro _ ⟨⟨w6, hb6⟩, rfl⟩
          have HB6 := Lib.hid (Below.step HG2.out hb6 hz2)
          clear hb6
          go_wp2
          go_ret
          exact ⟨ret_bool HR.out.symm, HB6.out⟩
      have hk1 : decide (0 < k) = true := by simp; omega
      have hcy := hcy0.out (by omega)
      generalize (es.getD (k - 1) e0).2.2 = M at *
      have hcy2 := aft_cell (keep hcy (.cells #[.int .i64 x0, .int .i64 x1, .int .i64 x2, .int .i64 x3, .int .i64 x4, .int .i64 x5, .int .i64 x6] 69))
      have hi1 : IntKind.i64.wrap ((k : Int) - 1) = (k : Int) - 1 := IntWalk.i64_in _ (by omega)
      have hi2 : ((k : Int) - 1).toNat = k - 1 := by omega
      have hi3 : 0 ≤ (k : Int) - 1 := by omega
      have hi4 : (k : Int) - 1 < (n : Int) := by omega
      clear hcy
      by_cases hle : M ≤ x6
      · have hle2 : decide (x6 < M) = false := by simp; omega
        rcases pOf_cases (es.take k) (x0, x1, x2, x3, x4) with ⟨hno, hpo⟩ | ⟨hyes, jp, hpo, _⟩
        · have HGood : Hid (eOk es k = true) := Lib.hid (by rw [HT2.out, h7, h8, decide_eq_false hno, decide_eq_true hle]; simp)
          have hpv := Lib.hid hpo
          clear hno hpo HT2 hle
          go_wp2
          refine wp_region_quietC (by kernel_rfl) (by kernel_rfl) ?_
          repeat (go_big_quiet_step ((first
            | (go_at_call 67; exact aft_call (s_FlowValid (x0, x1, x2, x3, x4) _))
            | (go_at_call 87; exact aft_same (q_l1In' _ _ _ _))
            | (go_at_call 82; exact aft_call (c_placeV (x0, x1, x2, x3, x4) _ _ k _ (es.take k) _ hlk.out (by omega) (hen _) hpv.out)))))
          refine wpQuiet_nil ?_
          rintro _ ⟨⟨w6, hb6⟩, rfl⟩
          have HB6 := Lib.hid hb6
          have HBX6 := Lib.hid ((HBX.out.alloc _).keep HB6.out)
          clear hb6
          go_wp2
          go_roundw
          case rel =>
            refine ⟨k + 1, by omega, by go_num, ?_, ?_, Lib.hid fun j hj => ?_⟩
            · exact Below.step HG2.out HB6.out hz2
            · exact HBX6.out
            · by_cases hjk : j = k
              · subst hjk; exact HGood.out
              · exact HV.out j (by omega)
          case measure => simp [intOf]; omega
        · have HBad : Hid (eOk es k = false) := Lib.hid (by rw [HT2.out, decide_eq_true hyes]; rfl)
          have hpv := Lib.hid hpo
          clear hyes hpo HT2 hle
          go_wp2
          have HR := Lib.hid (tv_not (sz := sz) (st := st) (es := es) (k := k) (by have := HX.out; omega) HBad.out)
          refine wp_region_quietC (by kernel_rfl) (by kernel_rfl) ?_
          repeat (go_big_quiet_step ((first
            | (go_at_call 67; exact aft_call (s_FlowValid (x0, x1, x2, x3, x4) _))
            | (go_at_call 87; exact aft_same (q_l1In' _ _ _ _))
            | (go_at_call 82; exact aft_call (c_placeV (x0, x1, x2, x3, x4) _ _ k _ (es.take k) _ hlk.out (by omega) (hen _) hpv.out)))))
          refine wpQuiet_nil ?_
          rintro _ ⟨⟨w6, hb6⟩, rfl⟩
          have HB6 := Lib.hid (Below.step HG2.out hb6 hz2)
          clear hb6
          go_wp2
          go_ret
          exact ⟨ret_bool HR.out.symm, HB6.out⟩
      · have HBad : Hid (eOk es k = false) := Lib.hid (by rw [HT2.out, h7, h8, decide_eq_false hk0, decide_eq_false (show ¬ M ≤ x6 by omega)]; simp)
        have hle2 : decide (x6 < M) = true := by simp; omega
        clear hle HT2
        go_wp2
        have HR := Lib.hid (tv_not (sz := sz) (st := st) (es := es) (k := k) (by have := HX.out; omega) HBad.out)
        refine wp_region_quietC (by kernel_rfl) (by kernel_rfl) ?_
        repeat (go_big_quiet_step ((first
          | (go_at_call 67; exact aft_call (s_FlowValid (x0, x1, x2, x3, x4) _))
          | (go_at_call 87; exact aft_same (q_l1In' _ _ _ _))
          | (go_at_call 82; exact aft_call (c_placeV (x0, x1, x2, x3, x4) _ _ k _ (es.take k) _ hlk.out (by omega) (hen _) hpv.out)))))
        refine wpQuiet_nil ?_
        rintro _ ⟨⟨w6, hb6⟩, rfl⟩
        have HB6 := Lib.hid (Below.step HG2.out hb6 hz2)
        clear hb6
        go_wp2
        go_ret
        exact ⟨ret_bool HR.out.symm, HB6.out⟩
    · obtain rfl : k = n := by omega
      have HR := Lib.hid (tv_of (sz := sz) (st := st) (es := es) (by rw [HX.out]; exact HV.out))
      cases h1 : inB sz 1 12
      · go_wp2_with (go_at_call 87; refine (c_l1In _ _ _ _).mono ?_; rintro e w' ⟨rfl, rfl⟩)
        go_ret
        exact ⟨ret_bool (by rw [HR.out, h1]; rfl), HG.out⟩
      cases h2 : inB st 1 100000
      · go_wp2_with (go_at_call 87; refine (c_l1In _ _ _ _).mono ?_; rintro e w' ⟨rfl, rfl⟩)
        go_ret
        exact ⟨ret_bool (by rw [HR.out, h1, h2]; rfl), HG.out⟩
      by_cases h3 : (k : Int) ≤ sz
      · go_wp2_with (go_at_call 87; refine (c_l1In _ _ _ _).mono ?_; rintro e w' ⟨rfl, rfl⟩)
        go_ret
        exact ⟨ret_bool (by rw [HR.out, h1, h2, HX.out, decide_eq_true h3]; rfl), HG.out⟩
      · go_wp2_with (go_at_call 87; refine (c_l1In _ _ _ _).mono ?_; rintro e w' ⟨rfl, rfl⟩)
        go_ret
        exact ⟨ret_bool (by rw [HR.out, h1, h2, HX.out, decide_eq_false (show ¬ (k : Int) ≤ sz by omega)]; rfl), HG.out⟩
end Go.Proofs.Ytdkdfehlmphikaa
/- DropFlow of the reference. No condition but lists of at most 2^20 entries. -/
namespace Go.Proofs.Ytdkdfehlmphikaa
open Go.RowKit
theorem tv_parts {sz st : Int} {es : List E7} (h : tv sz st es = true) : inB sz 1 12 = true ∧ inB st 1 100000 = true ∧ (es.length : Int) ≤ sz ∧ ∀ k, k < es.length → eOk es k = true := by
  simp only [tv, Bool.and_eq_true, List.all_eq_true, List.mem_range, decide_eq_true_eq] at h
  exact ⟨h.1.1.1, h.1.1.2, h.1.2, h.2⟩
theorem tv_apart {sz st : Int} {es : List E7} (h : tv sz st es = true) {i j : Nat} (hj : j < es.length) (hi : i < j) : (es.getD i e0).1 ≠ (es.getD j e0).1 := by
  have := (tv_parts h).2.2.2 j hj
  simp only [eOk, Bool.and_eq_true, Bool.not_eq_true', decide_eq_false_iff_not] at this
  intro e
  apply this.1.1.1.2
  rw [← e]
  refine List.mem_map.2 ⟨es.getD i e0, ?_, rfl⟩
  rw [List.mem_take_iff_getElem]
  refine ⟨i, by omega, ?_⟩
  rw [List.getD_eq_getElem?_getD, List.getElem?_eq_getElem (by omega)]; rfl
/-- In a valid table a flow stands at one place at most: it is struck there. -/
theorem drop_at {sz st : Int} {es : List E7} {f : F5} {k : Nat} (h : tv sz st es = true) (hk : k < es.length) (hf : (es.getD k e0).1 = f) : es.filter (fun e => !decide (e.1 = f)) = es.take k ++ es.drop (k + 1) := by
  have e1 : es = es.take k ++ (es.getD k e0 :: es.drop (k + 1)) := by
    have h2 : es.getD k e0 = es[k] := by rw [List.getD_eq_getElem?_getD, List.getElem?_eq_getElem hk]; rfl
    rw [h2, ← List.drop_eq_getElem_cons hk, List.take_append_drop]
  have h1 : (es.take k).filter (fun e => !decide (e.1 = f)) = es.take k := by
    rw [List.filter_eq_self]
    intro x hx
    obtain ⟨i, hi, rfl⟩ := List.getElem_of_mem hx
    rw [List.length_take] at hi
    have := tv_apart h hk (show i < k by omega)
    rw [hf] at this
    rw [List.getD_eq_getElem?_getD, List.getElem?_eq_getElem (by omega)] at this
    simpa using this
  have h2 : (es.drop (k + 1)).filter (fun e => !decide (e.1 = f)) = es.drop (k + 1) := by
    rw [List.filter_eq_self]
    intro x hx
    obtain ⟨i, hi, rfl⟩ := List.getElem_of_mem hx
    rw [List.length_drop] at hi
    have := tv_apart h (show k + 1 + i < es.length by omega) (show k < k + 1 + i by omega)
    rw [hf] at this
    rw [List.getD_eq_getElem?_getD, List.getElem?_eq_getElem (by omega)] at this
    simpa using fun e => this e.symm
  conv => lhs; rw [e1]
  rw [List.filter_append, h1, List.filter_cons, h2]
  simp [-List.getD_eq_getElem?_getD, hf]
theorem drop_no {es : List E7} {f : F5} (h : f ∉ es.map (·.1)) : es.filter (fun e => !decide (e.1 = f)) = es := by
  rw [List.filter_eq_self]
  intro x hx
  have : x.1 ≠ f := fun e => h (e ▸ List.mem_map.2 ⟨x, hx, rfl⟩)
  simpa using this
theorem Ents.drop {w : World} {b off : Nat} {es : List E7} (h : Ents w (some ⟨b, off, none⟩) es) (k : Nat) : Ents w (some ⟨b, off + k * 7, none⟩) (es.drop k) := by
  unfold Ents; rw [eInts_drop]
  rcases h with h | ⟨b', off', ha, hb, hc⟩
  · exact .inl (by rw [h]; simp)
  · cases ha
    refine .inr ⟨b, off + k * 7, rfl, hb, fun i hi => ?_⟩
    rw [List.length_drop] at hi
    have := hc (k * 7 + i) (by omega)
    rw [← Nat.add_assoc] at this
    rw [this, List.getD_eq_getElem?_getD, List.getD_eq_getElem?_getD, List.getElem?_drop]
end Go.Proofs.Ytdkdfehlmphikaa
/- DropFlow of the reference: the walk. No condition but lists of at most 2^20 entries. -/
namespace Go.Proofs.Ytdkdfehlmphikaa
open Go.RowKit
/-- .. and it is not nil. -/
def RetTN (w : World) (t : T3) (e : Ending) (w' : World) : Prop := RetTab w t.1 t.2.1 t.2.2 e w'
set_option maxRecDepth 100000 in
set_option maxHeartbeats 8000000 in
theorem s_DropFlow (sz st : Int) (f : F5) (a : Option Addr) (n cap : Nat) (es : List E7) (w : World) (hxs : es.length = n) (hn : n ≤ 1048576) (hcap : n ≤ cap) (h : Ents w a es) (ha : a = none → n = 0 ∧ cap = 0) :
    Calls Try.prog 48 #[.agg #[.int .i64 sz, .int .i64 st, .slice a n cap], fvv f] w (RetT w (dropT (sz, st, es) f)) := by
  obtain ⟨y0, y1, y2, y3, y4⟩ := f
  unfold fvv
  obtain ⟨W, hW, gW, sW, bt, bf, br⟩ := head3 w 30 37 30 [.int .i64 sz, .int .i64 st, .slice a n cap] [.int .i64 y0, .int .i64 y1, .int .i64 y2, .int .i64 y3, .int .i64 y4] [.int .i64 0, .int .i64 0, .slice none 0 0]
  have HX := Lib.hid hxs
  have HW := Lib.hid hW
  have HG := Lib.hid gW
  have HS := Lib.hid sW
  have HA := Lib.hid ha
  have HE := Lib.hid (h.below gW)
  have HBT := Lib.hid bt
  have HBF := Lib.hid bf
  have HBR := Lib.hid br
  have HQ : Hid (dropT (sz, st, es) (y0, y1, y2, y3, y4) = if tv sz st es = true then (sz, st, es.filter (fun e => !decide (e.1 = (y0, y1, y2, y3, y4)))) else (0, 0, [])) := Lib.hid rfl
  clear hxs hW gW sW ha h bt bf br
  go_enter Try.func48, Try.ntmps48
  go_wp2_with fail
  rw [← HW.out]
  (with_reducible refine (s_TableValid sz st a n cap es _ HX.out hn hcap HE.out).mono ?_)
  rintro e w2 ⟨rfl, hb2⟩
  have HB2 := Lib.hid hb2
  have hz2 := hb2.size
  rw [HS.out] at hz2
  have HT2 := Lib.hid (HBT.out.keep hb2)
  have HF2 := Lib.hid (HBF.out.keep hb2)
  have HR2 := Lib.hid (HBR.out.keep hb2)
  have HE2 := Lib.hid (HE.out.below hb2)
  clear hb2
  obtain ⟨t0, t1, t2, ft⟩ := HT2.out.three
  obtain ⟨r0, r1, r2, fr⟩ := HR2.out.three
  cases h1 : tv sz st es
  · go_wp2
    refine bodyPost_ret (v := .agg #[.int .i64 0, .int .i64 0, .slice none 0 0]) (by simp [results, Try.results48, go_sem, r0, r1, r2]) rfl ?_
    rw [HQ.out, h1, if_neg Bool.false_ne_true]
    refine retZero w _ ?_
    have := Below.step HG.out HB2.out HG.out.size
    go_grown
  · have HQ2 := Lib.hid (HQ.out.trans (if_pos h1))
    have HV := Lib.hid h1
    clear HQ h1
    go_wp2_with fail
    (with_reducible refine (s_copy sz st a n cap es _ HX.out hn HE2.out HA.out).mono ?_)
    rintro e w3 ⟨a3, c3, rfl, o3, g3, hs3⟩
    rw [HX.out] at o3 ⊢
    have HB3 := Lib.hid (grown_below g3)
    have hz3 := g3.size
    have HO3 := Lib.hid o3
    have LT3 := Lib.hid o3.lt
    have HT3 := Lib.hid (HT2.out.keep HB3.out)
    have HF3 := Lib.hid (HF2.out.keep HB3.out)
    have HR3 := Lib.hid (HR2.out.keep HB3.out)
    have HE3 := Lib.hid (HE2.out.below HB3.out)
    clear o3 g3 t0 t1 t2 ft r0 r1 r2 fr
    obtain ⟨t0, t1, t2, ft⟩ := HT3.out.three
    obtain ⟨f0, f1, f2, f3, f4, ff⟩ := HF3.out.five
    have hl0 : w.heap.size < w3.heap.size := by omega
    have hl1 : w.heap.size + 1 < w3.heap.size := by omega
    go_wp2_with fail
    clear t0 t1 t2 ft f0 f1 f2 f3 f4 ff
    obtain ⟨W4, hW4⟩ : ∃ W4, W4 = w3.alloc (.cells #[.int .i64 sz, .int .i64 st, .slice a3 n c3] 30) := ⟨_, rfl⟩
    have HW4 := Lib.hid hW4
    have HB4 : Hid (Below w3.heap.size w3 W4) := Lib.hid (by rw [hW4]; exact (Below.refl _ _).alloc (Nat.le_refl _) _)
    have HS4 : Hid (W4.heap.size = w3.heap.size + 1) := Lib.hid (by rw [hW4]; simp)
    have HNW : Hid (Box W4 w3.heap.size 30 [.int .i64 sz, .int .i64 st, .slice a3 n c3]) := Lib.hid (by rw [hW4]; exact Box.new _ _ _)
    clear hW4
    rw [← HW4.out]
    refine (c_place (y0, y1, y2, y3, y4) a n cap es _ HX.out hn (HE3.out.below HB4.out)).mono ?_
    rintro e wo ⟨rfl, hbo⟩
    have HBO := Lib.hid hbo
    have HN4 : Hid (Box wo w3.heap.size 30 [.int .i64 sz, .int .i64 st, .slice a3 n c3]) := Lib.hid (HNW.out.keep hbo)
    have HR4 := Lib.hid ((HR3.out.keep HB4.out).keep hbo)
    have HT4 := Lib.hid ((HT3.out.keep HB4.out).keep hbo)
    have HO4 : Hid (EntRow wo w2.heap.size a3 n c3 es) := Lib.hid (row_below (row_below HO3.out HB4.out) hbo)
    have HE4 := Lib.hid ((HE3.out.below HB4.out).below hbo)
    have HB2o : Hid (Below w2.heap.size w2 wo) := Lib.hid (Below.step (Below.step HB3.out HB4.out hz3) hbo (by rw [HS4.out]; omega))
    have hzo := hbo.size
    rw [HS4.out] at hzo
    clear hbo
    rcases pOf_cases es (y0, y1, y2, y3, y4) with ⟨hno, hpo⟩ | ⟨hyes, k, hpo, hk, hkf, _⟩
    · rw [hpo]
      have HNO := Lib.hid (drop_no hno)
      clear hno hpo
      obtain ⟨n0, n1, n2, fn⟩ := HN4.out.three
      obtain ⟨r0, r1, r2, fr⟩ := HR4.out.three
      go_wp2
      refine bodyPost_ret (v := .agg #[.int .i64 sz, .int .i64 st, .slice a3 n c3]) (by simp [results, Try.results48, go_sem, r0, r1, r2]) rfl ?_
      rw [HQ2.out, HNO.out]
      have hne : (Value.slice a3 n c3).ownBlock ≠ some (w.heap.size + 2) := fun e => by have := (LT3.out _ e).1; omega
      have hb7 : Below w.heap.size w wo := Below.step (Below.step HG.out HB2.out HG.out.size) HB2o.out (by omega)
      have hx := HX.out
      subst hx
      refine ⟨a3, c3, rfl, row_wider (row_set (row_set (row_set HO4.out _ _ hne) _ _ hne) _ _ hne) (by omega), below_grown ?_⟩
      go_grown
    · rw [hpo]
      have HDR := Lib.hid (drop_at HV.out hk hkf)
      have hk' : k < n := by rw [← HX.out]; exact hk
      clear hyes hpo hkf hk
      obtain ⟨b, off, rfl, hb, _⟩ := HE4.out.at HX.out hk'
      have HAP : Hid (eCells (es.take k) ++ eCells (es.drop (k + 1)) = eCells (es.take k ++ es.drop (k + 1))) := Lib.hid (by unfold eCells; rw [eInts_app, List.map_append])
      have HLT := Lib.hid (show (eCells (es.take k)).length = k * 7 by rw [List.length_map, eInts_len, List.length_take, HX.out]; congr 1; omega)
      have HLD := Lib.hid (show (eCells (es.drop (k + 1))).length = (n - (k + 1)) * 7 by rw [List.length_map, eInts_len, List.length_drop, HX.out])
      have VT := Lib.hid (Ints.vals (HE4.out.take k))
      have VD := Lib.hid (Ints.vals (HE4.out.drop (k + 1)))
      obtain ⟨x0, x1, x2, fx⟩ := HT4.out.three
      clear x0 x1 fx
      have hkc : k ≤ cap := by omega
      have hkc1 : k + 1 ≤ cap := by omega
      have hs1 : (0 : Int) ≤ (k : Int) + 1 := by omega
      have hs2 : (k : Int) + 1 ≤ (n : Int) := by omega
      have hs3 : ((k : Int) + 1).toNat = k + 1 := by omega
      have hs4 : (k : Int) + 1 ≤ (cap : Int) := by omega
      have hs5 : (k : Int) ≤ (cap : Int) := by omega
      have hi1 : IntKind.i64.wrap ((k : Int) + 1) = (k : Int) + 1 := IntWalk.i64_in _ (by omega)
      have hl2 : w.heap.size < wo.heap.size := by omega
      have hl3 : w3.heap.size < wo.heap.size := HN4.out.lt
      have H1 : Hid ((wo.alloc (.cells #[] 69)).drew.ownsRow wo.heap.size 69 7 (.slice (some ⟨wo.heap.size, 0, none⟩) 0 0) 0 []) := Lib.hid (row_emp wo _ _ _ rfl (Nat.le_refl _)).drew
      have A1 : Hid (Below wo.heap.size wo (wo.alloc (.cells #[] 69)).drew) := Lib.hid ((Below.refl _ _).alloc (Nat.le_refl _) _).drew
      by_cases hkn : cap = k + 1
      · obtain rfl : n = k + 1 := by omega
        subst hkn
        have hs6 : (k : Int) ≤ (k : Int) + 1 := by omega
        have VD2 : Hid (Vals wo (some ⟨b, off, none⟩) (eCells (es.drop (k + 1)))) := Lib.hid (by
          have : es.drop (k + 1) = [] := List.drop_eq_nil_iff.2 (by rw [HX.out]; omega)
          rw [this]; exact .inl rfl)
        go_wp2_with fail
        have HL0 := Lib.hid (show (eCells (es.drop (k + 1))).length = 0 * 7 by rw [HLD.out]; omega)
        go_region_held3 (fun w' => w'.cell? ⟨w.heap.size, 2, none⟩ = some (.slice (some ⟨b, off, none⟩) (k + 1) (k + 1))) (first | (with_reducible exact keepD0 x2) | (with_reducible exact keepD1 x2 _) | (with_reducible exact kk5) | (with_reducible exact kk6) | (with_reducible exact keepS1 kk6 (by omega)) | (trace "KEEP"; trace_state; fail))
          (first
            | (refine step_appA _ rfl elemEntry (.tmp 19) (.tmp 23) rfl wo.heap.size (.slice (some ⟨wo.heap.size, 0, none⟩) 0 0) 0 [] rfl H1.out (some ⟨b, off, none⟩) k (k + 1) (eCells (es.take k)) rfl (Vals.below VT.out A1.out) HLT.out (ints_one _) (fun h => by cases h) (by omega) (by simp) k (Nat.zero_add k) (eCells (es.take k)) rfl ?_
               intro a5 c5 w5 hown5 hgrow5 hat5
               have HO5 := Lib.hid hown5
               have HB5 : Hid (Below wo.heap.size wo w5) := Lib.hid (A1.out.grown hgrow5 (by simp) (by simp [Value.ownBlock]))
               have HM5 : Hid (wo.heap.size + 1 ≤ w5.heap.size) := Lib.hid (by have := hgrow5.size; simpa using this)
               have HZ5 : Hid (∃ g, a5 = some ⟨g, 0, none⟩) := Lib.hid (by
                 rcases hat5 with h | h
                 · exact ⟨_, own_some hown5 (h.trans rfl)⟩
                 · exact ⟨_, own_some hown5 h⟩)
               have kk5 : w5.cell? ⟨w.heap.size, 2, none⟩ = some (.slice (some ⟨b, off, none⟩) (k + 1) (k + 1)) := hgrow5.cell (keep x2 _) (by simp [Value.ownBlock]; omega))
            | (refine step_appA _ rfl elemEntry (.tmp 24) (.tmp 29) rfl wo.heap.size (.slice a5 k c5) k (eCells (es.take k)) rfl HO5.out (some ⟨b, off, none⟩) 0 0 (eCells (es.drop (k + 1))) rfl (Vals.below VD2.out HB5.out) HL0.out (ints_one _) (fun h => by cases h) (by omega) HB5.out.size ((k + 1) - 1) (by omega) (eCells (es.take k ++ es.drop (k + 1))) HAP.out ?_
               intro a6 c6 w6 hown6 hgrow6 hat6
               have HO6 := Lib.hid hown6
               have HB6 : Hid (Below wo.heap.size wo w6) := Lib.hid (HB5.out.grown hgrow6 HB5.out.size (fun g hg => (HO5.out.lt g hg).1))
               have HZ6 : Hid (∃ g, a6 = some ⟨g, 0, none⟩) := Lib.hid (by
                 obtain ⟨g5, rfl⟩ := HZ5.out
                 rcases hat6 with h | h
                 · exact ⟨_, own_some hown6 (h.trans rfl)⟩
                 · exact ⟨_, own_some hown6 h⟩)
               have HN6 : Hid (Box w6 w3.heap.size 30 [.int .i64 sz, .int .i64 st, .slice a3 (k + 1) c3]) := Lib.hid (HN4.out.keep HB6.out)
               obtain ⟨m0, m1, m2, mf⟩ := HN6.out.three
               have kk6 : w6.cell? ⟨w.heap.size, 2, none⟩ = some (.slice (some ⟨b, off, none⟩) (k + 1) (k + 1)) := (HB6.out.cell (p := ⟨w.heap.size, 2, none⟩) (by show w.heap.size < _; omega)).trans x2))
        obtain ⟨r0, r1, r2, fr⟩ := (HR4.out.keep HB6.out).three
        have hz6 := HB6.out.size
        have hlr : w.heap.size + 2 < w6.heap.size := by omega
        have hnr : ¬ w.heap.size + 2 = w3.heap.size := by omega
        have hnr2 : ¬ w3.heap.size = w.heap.size + 2 := by omega
        go_wp2_with fail
        refine bodyPost_ret (v := .agg #[.int .i64 sz, .int .i64 st, .slice a6 ((k + 1) - 1) c6]) (by simp [results, Try.results48, go_sem, r0, r1, r2]) rfl ?_
        rw [HQ2.out, HDR.out]
        have hne1 : (Value.slice a6 ((k + 1) - 1) c6).ownBlock ≠ some (w.heap.size + 2) := fun e => by have := (HO6.out.lt _ e).1; omega
        have hne2 : (Value.slice a6 ((k + 1) - 1) c6).ownBlock ≠ some w3.heap.size := fun e => by have := (HO6.out.lt _ e).1; omega
        have hb7 : Below w.heap.size w w6 := Below.step (Below.step (Below.step HG.out HB2.out HG.out.size) HB2o.out (by omega)) HB6.out (by omega)
        have hlen : (es.take k ++ es.drop (k + 1)).length = (k + 1) - 1 := by rw [List.length_append, List.length_take, List.length_drop, HX.out]; omega
        rw [← hlen]
        rw [← hlen] at HO6 hne1 hne2
        refine ⟨a6, c6, rfl, ?_, below_grown ?_⟩
        · exact row_wider (row_set (row_set (row_set (row_set HO6.out _ _ hne2) _ _ hne1) _ _ hne1) _ _ hne1) (by omega)
        · go_grown
      · go_wp2_with fail
        go_region_held3 (fun w' => w'.cell? ⟨w.heap.size, 2, none⟩ = some (.slice (some ⟨b, off, none⟩) n cap)) (first | (with_reducible exact keepD0 x2) | (with_reducible exact keepD1 x2 _) | (with_reducible exact kk5) | (with_reducible exact kk6) | (with_reducible exact keepS1 kk6 (by omega)) | (trace "KEEP"; trace_state; fail))
          (first
            | (refine step_appA _ rfl elemEntry (.tmp 19) (.tmp 23) rfl wo.heap.size (.slice (some ⟨wo.heap.size, 0, none⟩) 0 0) 0 [] rfl H1.out (some ⟨b, off, none⟩) k cap (eCells (es.take k)) rfl (Vals.below VT.out A1.out) HLT.out (ints_one _) (fun h => by cases h) (by omega) (by simp) k (Nat.zero_add k) (eCells (es.take k)) rfl ?_
               intro a5 c5 w5 hown5 hgrow5 hat5
               have HO5 := Lib.hid hown5
               have HB5 : Hid (Below wo.heap.size wo w5) := Lib.hid (A1.out.grown hgrow5 (by simp) (by simp [Value.ownBlock]))
               have HM5 : Hid (wo.heap.size + 1 ≤ w5.heap.size) := Lib.hid (by have := hgrow5.size; simpa using this)
               have HZ5 : Hid (∃ g, a5 = some ⟨g, 0, none⟩) := Lib.hid (by
                 rcases hat5 with h | h
                 · exact ⟨_, own_some hown5 (h.trans rfl)⟩
                 · exact ⟨_, own_some hown5 h⟩)
               have kk5 : w5.cell? ⟨w.heap.size, 2, none⟩ = some (.slice (some ⟨b, off, none⟩) n cap) := hgrow5.cell (keep x2 _) (by simp [Value.ownBlock]; omega))
            | (refine step_appA _ rfl elemEntry (.tmp 24) (.tmp 29) rfl wo.heap.size (.slice a5 k c5) k (eCells (es.take k)) rfl HO5.out (some ⟨b, off + (k + 1) * 7, none⟩) (n - (k + 1)) (cap - (k + 1)) (eCells (es.drop (k + 1))) rfl (Vals.below VD.out HB5.out) HLD.out (ints_one _) (fun h => by cases h) (by omega) HB5.out.size (n - 1) (by omega) (eCells (es.take k ++ es.drop (k + 1))) HAP.out ?_
               intro a6 c6 w6 hown6 hgrow6 hat6
               have HO6 := Lib.hid hown6
               have HB6 : Hid (Below wo.heap.size wo w6) := Lib.hid (HB5.out.grown hgrow6 HB5.out.size (fun g hg => (HO5.out.lt g hg).1))
               have HZ6 : Hid (∃ g, a6 = some ⟨g, 0, none⟩) := Lib.hid (by
                 obtain ⟨g5, rfl⟩ := HZ5.out
                 rcases hat6 with h | h
                 · exact ⟨_, own_some hown6 (h.trans rfl)⟩
                 · exact ⟨_, own_some hown6 h⟩)
               have HN6 : Hid (Box w6 w3.heap.size 30 [.int .i64 sz, .int .i64 st, .slice a3 n c3]) := Lib.hid (HN4.out.keep HB6.out)
               obtain ⟨m0, m1, m2, mf⟩ := HN6.out.three
               have kk6 : w6.cell? ⟨w.heap.size, 2, none⟩ = some (.slice (some ⟨b, off, none⟩) n cap) := (HB6.out.cell (p := ⟨w.heap.size, 2, none⟩) (by show w.heap.size < _; omega)).trans x2))
        obtain ⟨r0, r1, r2, fr⟩ := (HR4.out.keep HB6.out).three
        have hz6 := HB6.out.size
        have hlr : w.heap.size + 2 < w6.heap.size := by omega
        have hnr : ¬ w.heap.size + 2 = w3.heap.size := by omega
        have hnr2 : ¬ w3.heap.size = w.heap.size + 2 := by omega
        go_wp2_with fail
        refine bodyPost_ret (v := .agg #[.int .i64 sz, .int .i64 st, .slice a6 (n - 1) c6]) (by simp [results, Try.results48, go_sem, r0, r1, r2]) rfl ?_
        rw [HQ2.out, HDR.out]
        have hne1 : (Value.slice a6 (n - 1) c6).ownBlock ≠ some (w.heap.size + 2) := fun e => by have := (HO6.out.lt _ e).1; omega
        have hne2 : (Value.slice a6 (n - 1) c6).ownBlock ≠ some w3.heap.size := fun e => by have := (HO6.out.lt _ e).1; omega
        have hb7 : Below w.heap.size w w6 := Below.step (Below.step (Below.step HG.out HB2.out HG.out.size) HB2o.out (by omega)) HB6.out (by omega)
        have hlen : (es.take k ++ es.drop (k + 1)).length = n - 1 := by rw [List.length_append, List.length_take, List.length_drop, HX.out]; omega
        rw [← hlen]
        rw [← hlen] at HO6 hne1 hne2
        refine ⟨a6, c6, rfl, ?_, below_grown ?_⟩
        · exact row_wider (row_set (row_set (row_set (row_set HO6.out _ _ hne2) _ _ hne1) _ _ hne1) _ _ hne1) (by omega)
        · go_grown
end Go.Proofs.Ytdkdfehlmphikaa
/- ExpireTable of the program. No condition but lists of at most 2^20 entries. -/
namespace Go.Proofs.Ytdkdfehlmphikaa
open Go.RowKit
/-- A table without the entries that are too old. -/
def expT (t : T3) (now : Int) : T3 := if (tv t.1 t.2.1 t.2.2 && fitB t.2.2 now) = true then (t.1, t.2.1, t.2.2.filter (fun e => !oldB now t.2.1 e)) else (0, 0, [])
theorem tv_last {sz st : Int} {es : List E7} (h : tv sz st es = true) {e : E7} (he : e ∈ es) : inB e.2.2 0 100000 = true := by
  obtain ⟨k, hk, rfl⟩ := List.getElem_of_mem he
  have := (tv_parts h).2.2.2 k hk
  simp only [eOk, Bool.and_eq_true] at this
  have h2 := this.1.2
  rw [List.getD_eq_getElem?_getD, List.getElem?_eq_getElem hk] at h2
  exact h2
theorem fit_now {es : List E7} {now : Int} (h : fitB es now = true) : inB now 0 100000 = true ∧ lastOf es ≤ now := by
  simp only [fitB, Bool.and_eq_true, decide_eq_true_eq] at h
  exact h
set_option maxRecDepth 100000 in
set_option maxHeartbeats 4000000 in
theorem c_ExpireTable (sz st now : Int) (a : Option Addr) (n cap : Nat) (es : List E7) (w : World) (hxs : es.length = n) (hn : n ≤ 1048576) (h : Ents w a es) (ha : a = none → n = 0 ∧ cap = 0) :
    Calls Try.prog 50 #[.agg #[.int .i64 sz, .int .i64 st, .slice a n cap], .int .i64 now] w (RetT w (expT (sz, st, es) now)) := by
  obtain ⟨W, hW, gW, sW, bt, bf, br⟩ := head3 w 30 3 30 [.int .i64 sz, .int .i64 st, .slice a n cap] [.int .i64 now] [.int .i64 0, .int .i64 0, .slice none 0 0]
  have HX := Lib.hid hxs
  have HW := Lib.hid hW
  have HG := Lib.hid gW
  have HS := Lib.hid sW
  have HA := Lib.hid ha
  have HE := Lib.hid (h.below gW)
  have HBT := Lib.hid bt
  have HBF := Lib.hid bf
  have HBR := Lib.hid br
  have HQ : Hid (expT (sz, st, es) now = if (tv sz st es && fitB es now) = true then (sz, st, es.filter (fun e => !oldB now st e)) else (0, 0, [])) := Lib.hid rfl
  clear hxs hW gW sW ha h bt bf br
  go_enter Try.func50, Try.ntmps50
  go_wp2_with fail
  rw [← HW.out]
  (with_reducible refine (c_TableValid sz st a n cap es _ HX.out hn HE.out).mono ?_)
  rintro e w2 ⟨rfl, hb2⟩
  have HB2 := Lib.hid hb2
  have hz2 := hb2.size
  rw [HS.out] at hz2
  have HT2 := Lib.hid (HBT.out.keep hb2)
  have HF2 := Lib.hid (HBF.out.keep hb2)
  have HR2 := Lib.hid (HBR.out.keep hb2)
  have HE2 := Lib.hid (HE.out.below hb2)
  clear hb2
  obtain ⟨t0, t1, t2, ft⟩ := HT2.out.three
  obtain ⟨r0, r1, r2, fr⟩ := HR2.out.three
  have f0 := HF2.out.cell 0
  cases h1 : tv sz st es
  · go_wp2
    refine bodyPost_ret (v := .agg #[.int .i64 0, .int .i64 0, .slice none 0 0]) (by simp [results, Try.results50, go_sem, r0, r1, r2]) rfl ?_
    rw [HQ.out, h1, Bool.false_and, if_neg Bool.false_ne_true]
    refine retZero w _ ?_
    have := Below.step HG.out HB2.out HG.out.size
    go_grown
  have HV := Lib.hid h1
  rw [h1, Bool.true_and] at HQ
  clear h1
  go_wp2_with fail
  (with_reducible refine (c_fits sz st now a n cap es _ HX.out hn HE2.out).mono ?_)
  rintro e w2' ⟨rfl, hbf⟩
  have HBF2 := Lib.hid hbf
  have hzf := hbf.size
  have HT2' := Lib.hid (HT2.out.keep hbf)
  have HF2' := Lib.hid (HF2.out.keep hbf)
  have HR2' := Lib.hid (HR2.out.keep hbf)
  have HE2' := Lib.hid (HE2.out.below hbf)
  have HB2' : Hid (Below W.heap.size W w2') := Lib.hid (Below.step HB2.out hbf HB2.out.size)
  clear hbf t0 t1 t2 ft r0 r1 r2 fr f0
  have hz2' : w.heap.size + 3 ≤ w2'.heap.size := by omega
  clear HT2 HF2 HR2 HE2 HB2 HBF2 hz2 hzf
  obtain ⟨w2, rfl⟩ : ∃ x, x = w2' := ⟨_, rfl⟩
  have HT2 := HT2'
  have HF2 := HF2'
  have HR2 := HR2'
  have HE2 := HE2'
  have HB2 := HB2'
  have hz2 := hz2'
  clear HT2' HF2' HR2' HE2' HB2' hz2'
  obtain ⟨t0, t1, t2, ft⟩ := HT2.out.three
  obtain ⟨r0, r1, r2, fr⟩ := HR2.out.three
  cases h1 : fitB es now
  · go_wp2
    refine bodyPost_ret (v := .agg #[.int .i64 0, .int .i64 0, .slice none 0 0]) (by simp [results, Try.results50, go_sem, r0, r1, r2]) rfl ?_
    rw [HQ.out, h1, if_neg Bool.false_ne_true]
    refine retZero w _ ?_
    have := Below.step HG.out HB2.out HG.out.size
    go_grown
  · have HQ2 := Lib.hid (HQ.out.trans (if_pos h1))
    have HNOW := Lib.hid (fit_now h1).1
    clear HQ h1
    go_wp2_with fail
    (with_reducible refine (c_clone sz st a n cap es _ HX.out hn HE2.out HA.out).mono ?_)
    rintro e w3 ⟨a3, c3, rfl, o3, g3⟩
    rw [HX.out] at o3 ⊢
    have HB3 := Lib.hid (grown_below g3)
    have hz3 := g3.size
    have HO3 := Lib.hid o3
    have LT3 := Lib.hid o3.lt
    have HT3 := Lib.hid (HT2.out.keep HB3.out)
    have HF3 := Lib.hid (HF2.out.keep HB3.out)
    have HR3 := Lib.hid (HR2.out.keep HB3.out)
    clear o3 g3 t0 t1 t2 ft r0 r1 r2 fr
    go_wp2_with fail
    obtain ⟨W4, hW4⟩ : ∃ W4, W4 = w3.alloc (.cells #[.int .i64 sz, .int .i64 st, .slice a3 n c3] 30) := ⟨_, rfl⟩
    have HW4 := Lib.hid hW4
    have HB4 : Hid (Below w3.heap.size w3 W4) := Lib.hid (by rw [hW4]; exact (Below.refl _ _).alloc (Nat.le_refl _) _)
    have HS4 : Hid (W4.heap.size = w3.heap.size + 1) := Lib.hid (by rw [hW4]; simp)
    have HN4 : Hid (Box W4 w3.heap.size 30 [.int .i64 sz, .int .i64 st, .slice a3 n c3]) := Lib.hid (by rw [hW4]; exact Box.new _ _ _)
    have HF4 := Lib.hid (HF3.out.keep HB4.out)
    have HR4 := Lib.hid (HR3.out.keep HB4.out)
    have HT4 := Lib.hid (HT3.out.keep HB4.out)
    have HO4 : Hid (EntRow W4 w2.heap.size a3 n c3 es) := Lib.hid (row_below HO3.out HB4.out)
    clear hW4
    rw [← HW4.out]
    have hbf : some (w.heap.size + 1) ≠ (Value.slice a3 n c3).ownBlock := fun e => by have := (LT3.out _ e.symm).1; omega
    have hbt : some w.heap.size ≠ (Value.slice a3 n c3).ownBlock := fun e => by have := (LT3.out _ e.symm).1; omega
    have HTS : Hid (Tests 90 #[.pointer (some ⟨w.heap.size + 1, 0, none⟩), .pointer (some ⟨w.heap.size, 0, none⟩)] (fun e => oldB now st e) es W4 (Value.slice a3 n c3).ownBlock) := Lib.hid fun e w' he hg => by
      exact c_expire1 _ _ _ _ _ _ _ now sz st _ _ _ _ (tv_last HV.out he) HNOW.out ((HF4.out.kept hg hbf.symm).cell 0) (HT4.out.kept hg hbt.symm)
    refine (c_DeleteE 90 _ _ w2.heap.size a3 n c3 es W4 hn HO4.out HTS.out (enters_of Try.func90 (by kernel_rfl) rfl)).mono ?_
    rintro e w5 ⟨rfl, e5, g5⟩
    have HNL := Lib.hid (none_len HO4.out (fun e => !oldB now st e))
    have hml : (es.filter (fun e => !oldB now st e)).length ≤ n := by rw [← HX.out]; exact List.length_filter_le _ _
    generalize es.filter (fun e => !oldB now st e) = ks at *
    obtain ⟨m, hm⟩ : ∃ m, m = ks.length := ⟨_, rfl⟩
    have HM := Lib.hid hm
    rw [← hm] at hml ⊢
    clear hm
    have HE5 := Lib.hid e5
    have hn3 : some w3.heap.size ≠ (Value.slice a3 n c3).ownBlock := fun e => by have := (LT3.out _ e.symm).2; omega
    have hr3 : some (w.heap.size + 2) ≠ (Value.slice a3 n c3).ownBlock := fun e => by have := (LT3.out _ e.symm).1; omega
    have HN5 := Lib.hid (HN4.out.kept g5 hn3.symm)
    have HR5 := Lib.hid (HR4.out.kept g5 hr3.symm)
    have HB5 : Hid (Below w2.heap.size w2 w5) := Lib.hid ((Below.step HB3.out HB4.out hz3).grown g5 (by rw [HS4.out]; omega) (fun g hg => (LT3.out g hg).1))
    have hz5 := g5.size
    rw [HS4.out] at hz5
    clear e5 g5
    obtain ⟨n0, n1, n2, fn⟩ := HN5.out.three
    go_wp2_with fail
    obtain ⟨W6, hW6⟩ : ∃ W6, W6 = w5.setCell ⟨w3.heap.size, 2, none⟩ (.slice a3 m c3) := ⟨_, rfl⟩
    have HW6 := Lib.hid hW6
    have HR6 : Hid (Box W6 (w.heap.size + 2) 30 [.int .i64 0, .int .i64 0, .slice none 0 0]) := Lib.hid (by rw [hW6]; exact HR5.out.other (by simp; omega) _)
    have HB6 : Hid (Below w2.heap.size w2 W6) := Lib.hid (by rw [hW6]; exact HB5.out.setCell (by simpa using hz3) _)
    have HE6 : Hid (Ents W6 a3 ks) := Lib.hid (by
      rw [hW6]
      refine Ints.set HE5.out _ _ fun q hq => ?_
      have := (LT3.out q.block (by rw [hq]; rfl)).2
      simp; omega)
    have hz6 : W6.heap.size = w5.heap.size := by rw [hW6]; simp
    clear hW6 n0 n1 n2 fn
    rw [← HW6.out]
    (with_reducible refine (c_clone sz st a3 m c3 ks _ HM.out.symm (by omega) HE6.out (by rw [HM.out]; exact HNL.out)).mono ?_)
    rintro e w7 ⟨a7, c7, rfl, o7, g7⟩
    have HO7 := Lib.hid o7
    have HB7 := Lib.hid (grown_below g7)
    have hz7 := g7.size
    obtain ⟨r0, r1, r2, fr⟩ := (HR6.out.keep HB7.out).three
    clear o7 g7
    go_wp2
    refine bodyPost_ret (v := .agg #[.int .i64 sz, .int .i64 st, .slice a7 ks.length c7]) (by simp [results, Try.results50, go_sem, r0, r1, r2]) rfl ?_
    rw [HQ2.out]
    have hne : (Value.slice a7 ks.length c7).ownBlock ≠ some (w.heap.size + 2) := fun e => by have := (HO7.out.lt _ e).1; omega
    have hb7 : Below w.heap.size w w7 := Below.step (Below.step (Below.step HG.out HB2.out HG.out.size) HB6.out (by omega)) HB7.out (by omega)
    refine ⟨a7, c7, rfl, row_wider (row_set (row_set (row_set HO7.out _ _ hne) _ _ hne) _ _ hne) (by omega), below_grown ?_⟩
    go_grown
end Go.Proofs.Ytdkdfehlmphikaa
/- ExpireTable of the reference. No condition but lists of at most 2^20 entries. -/
namespace Go.Proofs.Ytdkdfehlmphikaa
open Go.RowKit
theorem tv_lastOf {sz st : Int} {es : List E7} (h : tv sz st es = true) : 0 ≤ lastOf es := by
  unfold lastOf
  split
  · omega
  · rename_i h0
    exact (inB_true.1 (tv_last h (getD_mem7 (show es.length - 1 < es.length by omega)))).1
theorem fit_in {sz st : Int} {es : List E7} (h : tv sz st es = true) (now : Int) : inB now (lastOf es) 100000 = fitB es now := by
  have := tv_lastOf h
  rw [Bool.eq_iff_iff, inB_true]
  simp only [fitB, Bool.and_eq_true, decide_eq_true_eq, inB_true]
  omega
theorem exp_step {es : List E7} {now st : Int} {k : Nat} (hk : k < es.length) (h : oldB now st (es.getD k e0) = false) : (es.take (k + 1)).filter (fun e => !oldB now st e) = (es.take k).filter (fun e => !oldB now st e) ++ [es.getD k e0] := by
  rw [take_one rfl hk, List.filter_append]
  simp [-List.getD_eq_getElem?_getD, h]
theorem exp_skip {es : List E7} {now st : Int} {k : Nat} (hk : k < es.length) (h : oldB now st (es.getD k e0) = true) : (es.take (k + 1)).filter (fun e => !oldB now st e) = (es.take k).filter (fun e => !oldB now st e) := by
  rw [take_one rfl hk, List.filter_append]
  simp [-List.getD_eq_getElem?_getD, h]
set_option maxRecDepth 100000 in
set_option maxHeartbeats 8000000 in
theorem s_ExpireTable (sz st now : Int) (a : Option Addr) (n cap : Nat) (es : List E7) (w : World) (hxs : es.length = n) (hn : n ≤ 1048576) (h : Ents w a es) (ha : a = none → n = 0 ∧ cap = 0) :
    Calls Try.prog 51 #[.agg #[.int .i64 sz, .int .i64 st, .slice a n cap], .int .i64 now] w (RetT w (expT (sz, st, es) now)) := by
  obtain ⟨W, hW, gW, sW, bt, br⟩ := headB w 30 30 [.int .i64 sz, .int .i64 st, .slice a n cap] [.int .i64 0, .int .i64 0, .slice none 0 0]
  have HX := Lib.hid hxs
  have HW := Lib.hid hW
  have HG := Lib.hid gW
  have HS := Lib.hid sW
  have HA := Lib.hid ha
  have HE := Lib.hid (h.below gW)
  have HBT := Lib.hid bt
  have HBR := Lib.hid br
  have HQ : Hid (expT (sz, st, es) now = if (tv sz st es && fitB es now) = true then (sz, st, es.filter (fun e => !oldB now st e)) else (0, 0, [])) := Lib.hid rfl
  clear hxs hW gW sW ha h bt br
  go_enter Try.func51, Try.ntmps51
  go_wp2_with fail
  rw [← HW.out]
  (with_reducible refine (s_own sz st a n cap es _ HX.out hn HE.out HA.out).mono ?_)
  rintro e w2 ⟨a2, c2, rfl, o2, g2, n2⟩
  rw [HX.out] at o2 ⊢
  have HN2 := Lib.hid n2
  have HB2 := Lib.hid (grown_below g2)
  have hz2 := g2.size
  rw [HS.out] at hz2
  have LT2 := Lib.hid o2.lt
  have hbt2 := HBT.out.keep HB2.out
  have hbr2 := HBR.out.keep HB2.out
  have hne : (Value.slice a2 n c2).ownBlock ≠ some w.heap.size := row_ne o2 hbt2 (by decide)
  obtain ⟨x0, x1, x2, fx⟩ := hbt2.three
  obtain ⟨W3, hW3⟩ : ∃ W3, W3 = ((w2.setCell ⟨w.heap.size, 0, none⟩ (.int .i64 sz)).setCell ⟨w.heap.size, 1, none⟩ (.int .i64 st)).setCell ⟨w.heap.size, 2, none⟩ (.slice a2 n c2) := ⟨_, rfl⟩
  have HB3 : Hid (Below w.heap.size w W3) := Lib.hid (by rw [hW3]; exact ((((Below.step HG.out HB2.out HG.out.size).setCell (by simp) _).setCell (by simp) _).setCell (by simp) _))
  have HT3 : Hid (Box W3 w.heap.size 30 [.int .i64 sz, .int .i64 st, .slice a2 n c2]) := Lib.hid (by rw [hW3]; exact ((hbt2.set 0 _).set 1 _).set 2 _)
  have HR3 : Hid (Box W3 (w.heap.size + 1) 30 [.int .i64 0, .int .i64 0, .slice none 0 0]) := Lib.hid (by rw [hW3]; exact ((hbr2.other (by simp) _).other (by simp) _).other (by simp) _)
  have HO3 : Hid (EntRow W3 W.heap.size a2 n c2 es) := Lib.hid (by rw [hW3]; exact row_set (row_set (row_set o2 _ _ hne) _ _ hne) _ _ hne)
  have hz3 : W3.heap.size = w2.heap.size := by rw [hW3]; simp
  have HW3 := Lib.hid hW3
  clear o2 g2 n2 hbt2 hbr2 hne hW3
  go_upto_region 2 with fail
  rw [← HW3.out]
  clear x0 x1 x2 fx
  obtain ⟨t0, t1, t2, ft⟩ := HT3.out.three
  go_wp2_with fail
  (with_reducible refine (s_TableValid sz st a2 n c2 es _ HX.out hn (row_cap HO3.out).1 (EntRow.ents HO3.out)).mono ?_)
  rintro e w4 ⟨rfl, hb4⟩
  have hz4 := hb4.size
  have HB4 := Lib.hid (Below.step HB3.out hb4 HB3.out.size)
  have HT4 := Lib.hid (HT3.out.keep hb4)
  have HR4 := Lib.hid (HR3.out.keep hb4)
  have HO4 : Hid (EntRow w4 W.heap.size a2 n c2 es) := Lib.hid (row_below HO3.out hb4)
  clear hb4 t0 t1 t2 ft
  obtain ⟨t0, t1, t2, ft⟩ := HT4.out.three
  obtain ⟨r0, r1, r2, fr⟩ := HR4.out.three
  cases h1 : tv sz st es
  · go_wp2
    refine bodyPost_ret (v := .agg #[.int .i64 0, .int .i64 0, .slice none 0 0]) (by simp [results, Try.results51, go_sem, r0, r1, r2]) rfl ?_
    rw [HQ.out, h1, Bool.false_and, if_neg Bool.false_ne_true]
    refine retZero w _ ?_
    have := HB4.out
    go_grown
  have HV := Lib.hid h1
  rw [h1, Bool.true_and] at HQ
  clear h1
  go_wp2_with fail
  (with_reducible refine (s_last sz st a2 n c2 es _ HX.out hn (EntRow.ents HO4.out)).mono ?_)
  rintro e w5 ⟨rfl, hb5⟩
  have hz5 := hb5.size
  have HB5 := Lib.hid (Below.step HB4.out hb5 HB4.out.size)
  have HT5 := Lib.hid (HT4.out.keep hb5)
  have HR5 := Lib.hid (HR4.out.keep hb5)
  have HO5 : Hid (EntRow w5 W.heap.size a2 n c2 es) := Lib.hid (row_below HO4.out hb5)
  clear hb5 t0 t1 t2 ft r0 r1 r2 fr
  obtain ⟨t0, t1, t2, ft⟩ := HT5.out.three
  obtain ⟨r0, r1, r2, fr⟩ := HR5.out.three
  have hfit := fit_in HV.out now
  cases h1 : fitB es now
  · rw [h1] at hfit
    go_wp2_with (go_at_call 87; refine (c_l1In _ _ _ _).mono ?_; rintro e w' ⟨rfl, rfl⟩)
    refine bodyPost_ret (v := .agg #[.int .i64 0, .int .i64 0, .slice none 0 0]) (by simp [results, Try.results51, go_sem, r0, r1, r2]) rfl ?_
    rw [HQ.out, h1, if_neg Bool.false_ne_true]
    refine retZero w _ ?_
    have := HB5.out
    go_grown
  rw [h1] at hfit
  have HQ2 := Lib.hid (HQ.out.trans (if_pos h1))
  have HNOW := Lib.hid (fit_now h1).1
  clear HQ h1
  have hlt0 : w.heap.size < w5.heap.size := HT5.out.lt
  go_wp2_with (go_at_call 87; refine (c_l1In _ _ _ _).mono ?_; rintro e w' ⟨rfl, rfl⟩)
  clear t0 t1 t2 ft r0 r1 r2 fr hfit
  obtain ⟨W6, hW6⟩ : ∃ W6, W6 = (w5.alloc (.cells #[] 69)).alloc (.cells #[.int .i64 sz, .int .i64 st, .slice (some ⟨w5.heap.size, 0, none⟩) 0 0] 30) := ⟨_, rfl⟩
  have HB6 : Hid (Below w.heap.size w W6) := Lib.hid (by rw [hW6]; exact (HB5.out.alloc (by omega) _).alloc (by simp; omega) _)
  have HT6 : Hid (Box W6 w.heap.size 30 [.int .i64 sz, .int .i64 st, .slice a2 n c2]) := Lib.hid (by rw [hW6]; exact (HT5.out.alloc _).alloc _)
  have HR6 : Hid (Box W6 (w.heap.size + 1) 30 [.int .i64 0, .int .i64 0, .slice none 0 0]) := Lib.hid (by rw [hW6]; exact (HR5.out.alloc _).alloc _)
  have HE6 : Hid (Ents W6 a2 es) := Lib.hid (by rw [hW6]; exact (EntRow.ents HO5.out).below (((Below.refl _ _).alloc (Nat.le_refl _) _).alloc (by simp) _))
  have HN6 : Hid (Box W6 (w5.heap.size + 1) 30 [.int .i64 sz, .int .i64 st, .slice (some ⟨w5.heap.size, 0, none⟩) 0 0]) := Lib.hid (by rw [hW6]; exact Box.new2 _ _ _ _ (by simp))
  have HO6 : Hid (EntRow W6 w5.heap.size (some ⟨w5.heap.size, 0, none⟩) 0 0 []) := Lib.hid (by rw [hW6]; exact row_below (row_emp w5 _ _ _ rfl (Nat.le_refl _)) ((Below.refl _ _).alloc (Nat.le_refl _) _))
  have HA2 : Hid (∀ q, a2 = some q → q.block < w5.heap.size) := Lib.hid fun q hq => by have := (LT2.out q.block (by rw [hq]; rfl)).2; omega
  have HW6 := Lib.hid hW6
  have hzb : W6.heap.size = w5.heap.size + 2 := by rw [hW6]; simp
  clear hW6 HB4 HT4 HR4 HO4 HO3 HT3 HR3 HB3 HBT HBR HE HA HO5 HT5 HR5
  rw [← HW6.out]
  go_loopw [6] (fun i wr => ∃ (k m c' : Nat) (a' : Option Addr), k ≤ n ∧ i = .int .i64 k ∧ Below w.heap.size w wr ∧ Box wr w.heap.size 30 [.int .i64 sz, .int .i64 st, .slice a2 n c2] ∧ Box wr (w.heap.size + 1) 30 [.int .i64 0, .int .i64 0, .slice none 0 0] ∧ Ents wr a2 es ∧
      Box wr (w5.heap.size + 1) 30 [.int .i64 sz, .int .i64 st, .slice a' m c'] ∧ EntRow wr w5.heap.size a' m c' ((es.take k).filter (fun e => !oldB now st e))) (fun i _ => n - (intOf i).toNat)
  case atStart => exact ⟨0, 0, 0, _, Nat.zero_le _, rfl, HB6.out, HT6.out, HR6.out, HE6.out, HN6.out, HO6.out⟩
  case round =>
    obtain ⟨k, m, c', a', hk, rfl, hB, hT, hR, hE, hN, hO⟩ := hrel
    have HB := Lib.hid hB
    have HT := Lib.hid hT
    have HR := Lib.hid hR
    have HE := Lib.hid hE
    have HN := Lib.hid hN
    have HO := Lib.hid hO
    have hlN := hN.lt
    have hml : m ≤ n := by
      have h1 := (EntRow.len hO)
      have h2 := List.length_filter_le (fun e => !oldB now st e) (es.take k)
      rw [List.length_take, HX.out] at h2
      omega
    obtain ⟨t0, t1, t2, ft⟩ := hT.three
    clear hB hT hR hE hN hO HB6 HT6 HR6 HE6 HN6 HO6 HW6
    by_cases hlt : k < n
    · obtain ⟨b, off, rfl, hb, hc⟩ := HE.out.at HX.out hlt
      obtain ⟨d0, d1, d2, d3, d4, d5, d6⟩ := hc k hlt
      clear hc
      have hbl : b < w5.heap.size := HA2.out ⟨b, off, none⟩ rfl
      have HL6 := Lib.hid (tv_last HV.out (getD_mem7 (show k < es.length by rw [HX.out]; exact hlt)))
      have HK := Lib.hid (fun hp => exp_step (es := es) (now := now) (st := st) (k := k) (by rw [HX.out]; exact hlt) hp)
      have HSK := Lib.hid (fun hp => exp_skip (es := es) (now := now) (st := st) (k := k) (by rw [HX.out]; exact hlt) hp)
      have HOL : Hid (oldB now st (es.getD k e0) = decide (st ≤ now - (es.getD k e0).2.2)) := Lib.hid rfl
      generalize es.getD k e0 = E at *
      obtain ⟨⟨x0, x1, x2, x3, x4⟩, x5, x6⟩ := E
      dsimp only at d0 d1 d2 d3 d4 d5 d6
      have hn1 := inB_true.1 HNOW.out
      have hn2 := inB_true.1 HL6.out
      dsimp only at hn2
      have hw : IntKind.i64.wrap (now - x6) = now - x6 := IntWalk.i64_in _ (by omega)
      clear hn1 hn2
      by_cases hold : st ≤ now - x6
      · have HSK2 := Lib.hid (HSK.out (by rw [HOL.out]; exact decide_eq_true hold))
        have hd : decide (now - x6 < st) = false := by simp; omega
        clear hold
        go_wp2
        go_quiet (fail)
        go_wp2
        go_roundw
        case rel => exact ⟨k + 1, m, c', a', by omega, by go_num, below_drewN HB.out _, HT.out, HR.out, HE.out, HN.out, by rw [HSK2.out]; exact HO.out⟩
        case measure => simp [intOf]; omega
      · have HK2 := Lib.hid (HK.out (by rw [HOL.out]; exact decide_eq_false hold))
        have hd : decide (now - x6 < st) = true := by simp; omega
        clear hold
        go_wp2
        go_quiet (fail)
        go_wp2_with fail
        obtain ⟨wo, hwo⟩ : ∃ W, W = wr.drewN nq := ⟨_, rfl⟩
        have f0 : Below w.heap.size w wo := by rw [hwo]; exact below_drewN HB.out _
        have f1 : Box wo w.heap.size 30 [.int .i64 sz, .int .i64 st, .slice (some ⟨b, off, none⟩) n c2] := by rw [hwo]; exact HT.out.drewN _
        have f2 : Box wo (w.heap.size + 1) 30 [.int .i64 0, .int .i64 0, .slice none 0 0] := by rw [hwo]; exact HR.out.drewN _
        have f3 : Ents wo (some ⟨b, off, none⟩) es := by rw [hwo]; exact ints_drewN HE.out _
        have f4 : Box wo (w5.heap.size + 1) 30 [.int .i64 sz, .int .i64 st, .slice a' m c'] := by rw [hwo]; exact HN.out.drewN _
        have f5 : EntRow wo w5.heap.size a' m c' ((es.take k).filter (fun e => !oldB now st e)) := by rw [hwo]; exact row_drewN HO.out _
        have k0 : wo.cell? ⟨b, off + k * 7, none⟩ = some (.int .i64 x0) := by rw [hwo]; exact d0
        have k1 : wo.cell? ⟨b, off + k * 7 + 1, none⟩ = some (.int .i64 x1) := by rw [hwo]; exact d1
        have k2 : wo.cell? ⟨b, off + k * 7 + 2, none⟩ = some (.int .i64 x2) := by rw [hwo]; exact d2
        have k3 : wo.cell? ⟨b, off + k * 7 + 3, none⟩ = some (.int .i64 x3) := by rw [hwo]; exact d3
        have k4 : wo.cell? ⟨b, off + k * 7 + 4, none⟩ = some (.int .i64 x4) := by rw [hwo]; exact d4
        have k5 : wo.cell? ⟨b, off + k * 7 + 5, none⟩ = some (.int .i64 x5) := by rw [hwo]; exact d5
        have k6 : wo.cell? ⟨b, off + k * 7 + 6, none⟩ = some (.int .i64 x6) := by rw [hwo]; exact d6
        have F0 := Lib.hid f0
        have F1 := Lib.hid f1
        have F2 := Lib.hid f2
        have F3 := Lib.hid f3
        have F4 := Lib.hid f4
        have F5 := Lib.hid f5
        have HWO := Lib.hid hwo
        have hlN2 := f4.lt
        have hlT2 := f1.lt
        have hlb : b < wo.heap.size := World.block_lt_of_cell? _ _ k0
        obtain ⟨u0, u1, u2, fu⟩ := f4.three
        clear t0 t1 t2 ft d0 d1 d2 d3 d4 d5 d6 f0 f2 f3 f4 f5 HB HT HR HE HN HO u0 u1
        obtain ⟨t0, t1, t2, ft⟩ := f1.three
        clear t0 t1 ft f1 hwo hlN hb
        rw [← HWO.out]
        generalize (es.take k).filter (fun e => !oldB now st e) = ks at *
        have BV : Hid (Box (wo.alloc (.cells #[.int .i64 x0, .int .i64 x1, .int .i64 x2, .int .i64 x3, .int .i64 x4, .int .i64 x5, .int .i64 x6] 69)).drew wo.heap.size 69 [.int .i64 x0, .int .i64 x1, .int .i64 x2, .int .i64 x3, .int .i64 x4, .int .i64 x5, .int .i64 x6]) := Lib.hid (Box.new _ _ _).drew
        have OV : Hid ((wo.alloc (.cells #[.int .i64 x0, .int .i64 x1, .int .i64 x2, .int .i64 x3, .int .i64 x4, .int .i64 x5, .int .i64 x6] 69)).drew.ownsRow w5.heap.size 69 7 (.slice a' m c') m (eCells ks)) := Lib.hid (row_below F5.out ((Below.refl _ _).alloc (Nat.le_refl _) _).drew)
        have HAP : Hid (eCells ks ++ [.int .i64 x0, .int .i64 x1, .int .i64 x2, .int .i64 x3, .int .i64 x4, .int .i64 x5, .int .i64 x6] = eCells (ks ++ [((x0, x1, x2, x3, x4), x5, x6)])) := Lib.hid (by unfold eCells; rw [eInts_app, eInts_one, List.map_append]; rfl)
        have hz0 : w5.heap.size ≤ wo.heap.size := by omega
        go_region_law (first
            | (refine step_app' _ rfl elemEntry (.tmp 45) (.tmp 51) rfl w5.heap.size (.slice a' m c') m (eCells ks) rfl OV.out ⟨wo.heap.size, 0, none⟩ 1 1 [.int .i64 x0, .int .i64 x1, .int .i64 x2, .int .i64 x3, .int .i64 x4, .int .i64 x5, .int .i64 x6] rfl rfl (news_of BV.out) (one7 _ _ _ _ _ _ _) (by decide) (by omega) (Nat.le_trans hz0 (by simp)) (m + 1) rfl (eCells (ks ++ [((x0, x1, x2, x3, x4), x5, x6)])) HAP.out ?_
               intro g6 c6 w6 hown6 hgrow6 hat6 hlt6
               have HO6 := Lib.hid hown6
               have LO : ∀ q, (Value.slice a' m c').ownBlock = some q → w5.heap.size ≤ q := fun q hq => (OV.out.lt q hq).1
               have hzq : w.heap.size ≤ (wo.alloc (.cells #[.int .i64 x0, .int .i64 x1, .int .i64 x2, .int .i64 x3, .int .i64 x4, .int .i64 x5, .int .i64 x6] 69)).drew.heap.size := by show w.heap.size ≤ (wo.alloc (.cells #[.int .i64 x0, .int .i64 x1, .int .i64 x2, .int .i64 x3, .int .i64 x4, .int .i64 x5, .int .i64 x6] 69)).heap.size; simp; omega
               have HB6 := Lib.hid (((F0.out.alloc (by omega) (.cells #[.int .i64 x0, .int .i64 x1, .int .i64 x2, .int .i64 x3, .int .i64 x4, .int .i64 x5, .int .i64 x6] 69)).drew).grown hgrow6 hzq (fun q hq => by have := LO q hq; omega))
               have HT6 := Lib.hid ((F1.out.alloc (.cells #[.int .i64 x0, .int .i64 x1, .int .i64 x2, .int .i64 x3, .int .i64 x4, .int .i64 x5, .int .i64 x6] 69)).drew.kept hgrow6 (row_ne OV.out (F1.out.alloc (.cells #[.int .i64 x0, .int .i64 x1, .int .i64 x2, .int .i64 x3, .int .i64 x4, .int .i64 x5, .int .i64 x6] 69)).drew (by decide)))
               have HR6 := Lib.hid ((F2.out.alloc (.cells #[.int .i64 x0, .int .i64 x1, .int .i64 x2, .int .i64 x3, .int .i64 x4, .int .i64 x5, .int .i64 x6] 69)).drew.kept hgrow6 (row_ne OV.out (F2.out.alloc (.cells #[.int .i64 x0, .int .i64 x1, .int .i64 x2, .int .i64 x3, .int .i64 x4, .int .i64 x5, .int .i64 x6] 69)).drew (by decide)))
               have HE6 : Hid (Ents w6 (some ⟨b, off, none⟩) es) := Lib.hid (Ints.kept (F3.out.below ((Below.refl _ _).alloc (Nat.le_refl _) (.cells #[.int .i64 x0, .int .i64 x1, .int .i64 x2, .int .i64 x3, .int .i64 x4, .int .i64 x5, .int .i64 x6] 69)).drew) hgrow6 (fun p hp e => by cases hp; have := LO _ e.symm; simp at this; omega))
               have HN6 := Lib.hid ((F4.out.alloc (.cells #[.int .i64 x0, .int .i64 x1, .int .i64 x2, .int .i64 x3, .int .i64 x4, .int .i64 x5, .int .i64 x6] 69)).drew.kept hgrow6 (row_ne OV.out (F4.out.alloc (.cells #[.int .i64 x0, .int .i64 x1, .int .i64 x2, .int .i64 x3, .int .i64 x4, .int .i64 x5, .int .i64 x6] 69)).drew (by decide)))
               obtain ⟨v0, v1, v2, vf⟩ := HN6.out.three)
            | fail)
        all_goals
          go_wp2
          go_roundw
          case rel =>
            have hn1 : (Value.slice (some ⟨g6, 0, none⟩) (m + 1) c6).ownBlock ≠ some (w5.heap.size + 1) := row_ne HO6.out HN6.out (by decide)
            refine ⟨k + 1, m + 1, c6, some ⟨g6, 0, none⟩, by omega, by go_num, HB6.out.setCell (by simp; omega) _, HT6.out.other (by simp; omega) _, HR6.out.other (by simp; omega) _, ?_, HN6.out.set 2 _, ?_⟩
            · exact Ints.set HE6.out _ _ fun q hq => by cases hq; simp; omega
            · rw [HK2.out]; exact row_set HO6.out _ _ hn1
          case measure => simp [intOf]; omega
    · obtain rfl : k = n := by omega
      obtain ⟨u0, u1, u2, fu⟩ := HN.out.three
      obtain ⟨r0, r1, r2, fr⟩ := HR.out.three
      go_wp2
      refine bodyPost_ret (v := .agg #[.int .i64 sz, .int .i64 st, .slice a' m c']) (by simp [results, Try.results51, go_sem, r0, r1, r2]) rfl ?_
      rw [HQ2.out]
      have ho := HO.out
      rw [show es.take k = es from by rw [List.take_of_length_le (by rw [HX.out]; omega)]] at ho
      have hm := EntRow.len ho
      subst hm
      have hne := row_ne ho HR.out (by decide)
      refine ⟨a', c', rfl, row_wider (row_set (row_set (row_set ho _ _ hne) _ _ hne) _ _ hne) (by omega), below_grown ?_⟩
      have := HB.out
      go_grown
end Go.Proofs.Ytdkdfehlmphikaa
/- slices.Delete at entries, of a row of one's own; 'append' to a row whose head was cut off. No condition but lists of at most 2^20 entries. -/
namespace Go.Proofs.Ytdkdfehlmphikaa
open Go.RowKit
/-- Values laid into a list from a place on. -/
def putAt : List Value → Nat → List Value → List Value
  | xs, _, [] => xs
  | xs, o, v :: r => putAt (xs.set o v) (o + 1) r
theorem putAt_eq : ∀ (vs xs : List Value) (o : Nat), o + vs.length ≤ xs.length → putAt xs o vs = xs.take o ++ vs ++ xs.drop (o + vs.length)
  | [], xs, o, h => by simp [putAt]
  | v :: r, xs, o, h => by
    simp only [List.length_cons] at h
    have e : xs.set o v = xs.take o ++ v :: xs.drop (o + 1) := by rw [List.set_eq_take_append_cons_drop, if_pos (by omega)]
    have hl : (xs.take o).length = o := by rw [List.length_take]; omega
    have h1 : (xs.set o v).take (o + 1) = xs.take o ++ [v] := by
      rw [e, List.take_append, List.take_of_length_le (by omega), hl, show o + 1 - o = 1 by omega]; rfl
    have h2 : (xs.set o v).drop (o + 1 + r.length) = xs.drop (o + (r.length + 1)) := by
      rw [List.drop_set_of_lt (by omega)]; congr 1; omega
    rw [putAt, putAt_eq r _ _ (by rw [List.length_set]; omega), h1, h2, List.length_cons]
    simp
theorem row_putAt {base g n cap : Nat} {e : TypeId} {size : Nat} : ∀ (vs : List Value) (o : Nat) (w : World) (xs : List Value), w.ownsRow base e size (.slice (some ⟨g, 0, none⟩) n cap) n xs → (w.setCells g o vs).ownsRow base e size (.slice (some ⟨g, 0, none⟩) n cap) n (putAt xs o vs)
  | [], _, _, _, h => h
  | v :: r, o, _, _, h => row_putAt r (o + 1) _ _ (h.stored o v).1
/-- A row cut short. -/
theorem row_cut {w : World} {base g n cap : Nat} {e : TypeId} {size : Nat} {xs : List Value} (h : w.ownsRow base e size (.slice (some ⟨g, 0, none⟩) n cap) n xs) (m : Nat) (hm : m ≤ n) : w.ownsRow base e size (.slice (some ⟨g, 0, none⟩) m cap) m (xs.take (m * size)) := by
  have hms := Nat.mul_le_mul_right size hm
  have hl : (xs.take (m * size)).length = m * size := by rw [List.length_take, h.1]; exact Nat.min_eq_left hms
  refine ⟨hl, ?_⟩
  rcases h.2 with ⟨h1, _⟩ | ⟨g', c, cur, h1, hb, hg, hnc, hcm, hcs, ht⟩
  · injection h1 with h1; cases h1
  · injection h1 with h3 h4 h5
    injection h3 with h3
    injection h3 with h3
    subst h3 h5
    refine .inr ⟨g, cap, cur, rfl, hb, hg, by omega, hcm, hcs, ?_⟩
    rw [← ht, List.take_take, Nat.min_eq_left hms]
/-- A row's cells reach as far as its capacity. -/
theorem row_spare {w : World} {base g n cap : Nat} {e : TypeId} {size : Nat} {xs : List Value} (h : w.ownsRow base e size (.slice (some ⟨g, 0, none⟩) n cap) n xs) (i : Nat) (hi : i < cap * size) : (w.cell? ⟨g, i, none⟩).isSome = true := by
  rcases h.2 with ⟨h1, _⟩ | ⟨g', c, cur, h1, hb, hg, hnc, hcm, hcs, ht⟩
  · injection h1 with h1; cases h1
  · injection h1 with h3 h4 h5
    injection h3 with h3
    injection h3 with h3
    subst h3 h5
    rw [cell_of_row w g i cur e (0, 0) hg, Array.getElem?_eq_getElem (by omega)]; rfl
/-- 'append' of one element behind a row that is known by its cells, in a block of one's own: in place, or in a new block. -/
theorem run_appO {T e : TypeId} {size bytes : Nat} (w : World) (ty : TypeId) (H : Elem T e size bytes) (b off n cap : Nat) (xs : List Value) (hlx : xs.length = n * size) (hb : b < w.heap.size)
    (holds : ∀ j u, xs[j]? = some u → w.cell? ⟨b, off + j, none⟩ = some u) (hspare : n < cap → ∀ j, j < size → (w.cell? ⟨b, off + n * size + j, none⟩).isSome = true ∧ w.frozen? ⟨b, off + n * size + j, none⟩ = false)
    (ad : Addr) (c : Nat) (news : List Value) (hl : news.length = size) (hnews : ∀ j u, news[j]? = some u → w.cell? (ad.add j) = some u) (h1 : ∀ u ∈ news, u.oneCell' = true) (hn : n ≤ 1000000) :
    ∃ (a' : Addr) (cap' : Nat) (w' : World), (Builtin.append_ #[T, T] ty #[.slice (some ⟨b, off, none⟩) n cap, .slice (some ad) 1 c]).run Try.prog w = .ok (.slice (some a') (n + 1) cap') w' ∧ Vals w' (some a') (xs ++ news) ∧ w.grownBy w' (some b) ∧ (a'.block = b ∨ w.heap.size ≤ a'.block) := by
  obtain ⟨i0, z, hT, hi, hz0, hz1, hz2, hz, h0, hby⟩ := H
  have hl1 : news.length = 1 * i0.size := by rw [hl, hz1, Nat.one_mul]
  by_cases hr : n + 1 ≤ cap
  · have hs := hspare (by omega)
    have hc : ∀ j, j < news.length → (w.cell? ⟨b, off + n * i0.size + j, none⟩).isSome = true := fun j hj => by rw [hz1]; exact (hs j (by omega)).1
    have hf : ∀ j, j < news.length → w.frozen? ⟨b, off + n * i0.size + j, none⟩ = false := fun j hj => by rw [hz1]; exact (hs j (by omega)).2
    refine ⟨⟨b, off, none⟩, cap, _, run_append_room_cells (P := Try.prog) w T ty e i0 hT hi b off n cap ad 1 c news hl1 hnews h1 hr hc hf, ?_, gb_setCells w b news _ w (World.grownBy.refl _ _), .inl rfl⟩
    refine .inr ⟨b, off, rfl, Nat.lt_of_lt_of_le hb (gb_setCells w b news _ w (World.grownBy.refl _ _)).size, fun j u hu => ?_⟩
    by_cases hj : j < xs.length
    · rw [List.getElem?_append_left hj] at hu
      rw [World.cell?_setCells_out b news _ w _ (fun _ _ => .inl (by show off + j < _; rw [hz1]; omega))]
      exact holds j u hu
    · rw [List.getElem?_append_right (by omega)] at hu
      obtain ⟨hj2, hu2⟩ := List.getElem?_eq_some_iff.1 hu
      have := World.cell?_setCells_in b news (off + n * i0.size) w hc (j - xs.length) hj2
      rw [show off + n * i0.size + (j - xs.length) = off + j by rw [hz1]; omega] at this
      rw [this, hu2]
  · have hby2 : (n + 1) * bytes ≤ 1000001 * 100 := Nat.mul_le_mul (by omega) hby
    have holds' : ∀ j u, xs[j]? = some u → w.cell? ((⟨b, off, none⟩ : Addr).add j) = some u := fun j u hu => by
      have ea : (⟨b, off, none⟩ : Addr).add j = ⟨b, off + j, none⟩ := by
        unfold Addr.add
        split
        · rename_i hi0; subst hi0; rfl
        · rfl
      rw [ea]; exact holds j u hu
    obtain ⟨v', w', hrun, ho, hg⟩ := run_append_arg_grows (P := Try.prog) w T ty e i0 z size bytes hT hi hz0 hz1 hz2 hz h0 ⟨b, off, none⟩ n cap xs hlx holds' ad 1 c news (by rw [hl, Nat.one_mul]) hnews (by omega) (by unfold maxLen; omega) (by omega)
    obtain ⟨g, cap', rfl, hg1, hg2⟩ := ho.form (by omega)
    exact ⟨⟨g, 0, none⟩, cap', w', hrun, row_vals ho, grown_any hg, .inr hg1⟩
section
variable {ops : Array Oper} {rest : List Oper} {o : Oper} {a : Act} {Q : Exit → Act → World → Prop} {T e : TypeId} {size bytes : Nat}
theorem wpl_appO (w : World) (hgd : o.guard = none) (H : Elem T e size bytes) (s x : Operand)
    (ho : o.op = .call { callee := .builtin .append, args := #[s, x], argTypes := #[T, T] })
    (b off n cap : Nat) (xs : List Value) (hs : a.eval s = .slice (some ⟨b, off, none⟩) n cap) (hlx : xs.length = n * size) (hb : b < w.heap.size)
    (holds : ∀ j u, xs[j]? = some u → w.cell? ⟨b, off + j, none⟩ = some u) (hspare : n < cap → ∀ j, j < size → (w.cell? ⟨b, off + n * size + j, none⟩).isSome = true ∧ w.frozen? ⟨b, off + n * size + j, none⟩ = false)
    (ad : Addr) (c : Nat) (news : List Value) (hx : a.eval x = .slice (some ad) 1 c) (hl : news.length = size) (hnews : ∀ j u, news[j]? = some u → w.cell? (ad.add j) = some u) (h1 : ∀ u ∈ news, u.oneCell' = true) (hn : n ≤ 1000000)
    (N : Nat) (hN : n + 1 = N) (ys : List Value) (hys : xs ++ news = ys)
    (h : ∀ (a' : Addr) cap' w', Vals w' (some a') ys → w.grownBy w' (some b) → (a'.block = b ∨ w.heap.size ≤ a'.block) → wpList Try.prog ops Q rest (a.put o.dst (.slice (some a') N cap')) w') :
    wpList Try.prog ops Q (o :: rest) a w :=
  wpList_plain hgd fun _ hK => by
    obtain ⟨a', cap', w', hr, h2, h3, h4⟩ := run_appO w o.type H b off n cap xs hlx hb holds hspare ad c news hl hnews h1 hn
    rw [hN] at hr
    rw [hys] at h2
    unfold Oper.wp execOp
    simp only [ho, resolve, invoke, builtin, Sem.run_bind, Sem.run_pure, Result.andThen_ok, List.map_toArray, List.map_cons, List.map_nil, hs, hx, hr]
    exact hK _ _ (h a' cap' w' h2 h3 h4)
end
theorem del_cells {es : List E7} {n k : Nat} (hl : es.length = n) (hk : k < n) :
    (putAt (putAt (eCells es) (k * 7) (eCells (es.drop (k + 1)))) ((n - 1) * 7) (List.replicate 7 (.int .i64 0))).take ((n - 1) * 7) = eCells (es.take k ++ es.drop (k + 1)) := by
  have h0 : (eCells es).length = n * 7 := by rw [List.length_map, eInts_len, hl]
  have h1 : (eCells (es.drop (k + 1))).length = (n - (k + 1)) * 7 := by rw [List.length_map, eInts_len, List.length_drop, hl]
  have h2 : (eCells (es.take k)).length = k * 7 := by rw [List.length_map, eInts_len, List.length_take, hl]; congr 1; omega
  have h3 : (eCells es).take (k * 7) = eCells (es.take k) := by unfold eCells; rw [eInts_take, List.map_take]
  rw [putAt_eq (eCells (es.drop (k + 1))) _ _ (by omega), h3]
  rw [putAt_eq _ _ _ (by simp only [List.length_append, List.length_replicate, List.length_drop, h0, h1, h2]; omega)]
  have h4 : (eCells (es.take k) ++ eCells (es.drop (k + 1))).length = (n - 1) * 7 := by rw [List.length_append, h1, h2]; omega
  rw [List.append_assoc, List.take_left' (by rw [List.length_take, List.length_append, h4]; omega), List.take_left' h4]
  unfold eCells
  rw [eInts_app, List.map_append]
end Go.Proofs.Ytdkdfehlmphikaa
/- slices.Delete at entries; TouchFlow of the program. No condition but lists of at most 2^20 entries. -/
namespace Go.Proofs.Ytdkdfehlmphikaa
open Go.RowKit
set_option maxRecDepth 100000 in
set_option maxHeartbeats 4000000 in
theorem c_DelE (base g n cap k : Nat) (es : List E7) (w : World) (hn : n ≤ 1048576) (hk : k < n) (h : EntRow w base (some ⟨g, 0, none⟩) n cap es) :
    Calls Try.prog 86 #[.slice (some ⟨g, 0, none⟩) n cap, .int .i64 k, .int .i64 ((k : Int) + 1)] w fun e w' => e = .returned (.slice (some ⟨g, 0, none⟩) (n - 1) cap) ∧ EntRow w' base (some ⟨g, 0, none⟩) (n - 1) cap (es.take k ++ es.drop (k + 1)) ∧ w.grownBy w' (some g) := by
  have hl := h.len
  have hcp := row_cap h
  have hrl := row_len h
  have hmx : cap ≤ maxLen := hcp.2
  obtain ⟨i0, z, hT, hi, hz0, hz1, hz2, hz, _, hby⟩ := elemEntry
  have hnl : (eCells (es.drop (k + 1))).length = (n - (k + 1)) * 7 := by rw [List.length_map, eInts_len, List.length_drop, hl]
  have s1 := Lib.hid hnl
  have s2 := Lib.hid (ints_one (eInts (es.drop (k + 1))))
  have hdc : (eCells (es.drop (k + 1))) = (eCells es).drop ((k + 1) * 7) := by unfold eCells; rw [eInts_drop, List.map_drop]
  have s3 : Hid (∀ t, t < (eCells (es.drop (k + 1))).length → (w.drew.cell? ⟨g, 0 + k * 7 + t, none⟩).isSome = true ∧ w.drew.frozen? ⟨g, 0 + k * 7 + t, none⟩ = false) := Lib.hid (by
    intro t ht
    rw [hnl] at ht
    refine ⟨?_, h.frozenAt _⟩
    show (w.cell? ⟨g, 0 + k * 7 + t, none⟩).isSome = true
    rw [h.cellAt (0 + k * 7 + t) (by omega), List.getElem?_eq_getElem (by omega)]; rfl)
  obtain ⟨W1, hW1⟩ : ∃ W1, W1 = w.drew.setCells g (0 + k * 7) (eCells (es.drop (k + 1))) := ⟨_, rfl⟩
  have ho1 : W1.ownsRow base 69 7 (.slice (some ⟨g, 0, none⟩) n cap) n (putAt (eCells es) (k * 7) (eCells (es.drop (k + 1)))) := by
    rw [hW1, Nat.zero_add]; exact row_putAt _ _ _ _ h
  have hg1 : w.grownBy W1 (some g) := by rw [hW1]; exact gb_setCells w g _ _ _ ⟨rfl, rfl, rfl, Nat.le_refl _, fun _ _ _ => rfl⟩
  have HO1 := Lib.hid ho1
  have HG1 := Lib.hid hg1
  have HW := Lib.hid hW1
  have hcl : ∀ ty, (Builtin.clear_ #[28] ty #[.slice (some ⟨g, (n - 1) * 7, none⟩) (n - (n - 1)) (cap - (n - 1))]).run Try.prog W1 = .ok (.tuple #[]) (W1.setCells g ((n - 1) * 7) (List.replicate ((n - (n - 1)) * 7) (.int .i64 0))) := fun ty => by
    have hr1 := row_len HO1.out
    refine run_clearE W1 ty g ((n - 1) * 7) (n - (n - 1)) (cap - (n - 1)) (by omega) (fun t ht => ?_) (fun t _ => HO1.out.frozenAt _)
    rw [HO1.out.cellAt ((n - 1) * 7 + t) (by omega), List.getElem?_eq_getElem (by omega)]; rfl
  have HCL := Lib.hid hcl
  have HL := Lib.hid hl
  clear hcl ho1 hg1 hW1 hl hrl
  have hlt : (k : Int) + 1 ≤ (n : Int) := by omega
  have hs0 : (0 : Int) ≤ (k : Int) + 1 := by omega
  have hs3 : ((k : Int) + 1).toNat = k + 1 := by omega
  have hne : ((k : Int) == (k : Int) + 1) = false := beq_eq_false_iff_ne.2 (by omega)
  have hne1 : ¬ (k : Int) = (k : Int) + 1 := by omega
  have hkk : (k : Int) ≤ (k : Int) + 1 := by omega
  have hnc : (n : Int) ≤ (cap : Int) := by omega
  have hkc : k ≤ cap := by omega
  have hkc1 : k + 1 ≤ cap := by omega
  have hkc2 : (k : Int) + 1 ≤ (cap : Int) := by omega
  have hm1 : k + (n - (k + 1)) = n - 1 := by omega
  have hm2 : ((n - 1 : Nat) : Int) ≤ (n : Int) := by omega
  have hm3 : ¬ (n - 1 = cap) := by omega
  have hm4 : ¬ (cap = n - 1) := by omega
  have hm5 : n - 1 ≤ cap := by omega
  have fin : ∀ w', w' = W1.setCells g ((n - 1) * 7) [.int .i64 0, .int .i64 0, .int .i64 0, .int .i64 0, .int .i64 0, .int .i64 0, .int .i64 0] → EntRow w' base (some ⟨g, 0, none⟩) (n - 1) cap (es.take k ++ es.drop (k + 1)) ∧ w.grownBy w' (some g) := by
    rintro w' rfl
    refine ⟨?_, gb_setCells w g _ _ _ HG1.out⟩
    have := row_cut (row_putAt (List.replicate 7 (.int .i64 0)) ((n - 1) * 7) _ _ HO1.out) (n - 1) (by omega)
    rw [del_cells HL.out hk] at this
    exact this
  have HF := Lib.hid fin
  clear fin
  by_cases hcj : cap = k + 1
  · obtain rfl : n = k + 1 := by omega
    subst hcj
    have hnil : eCells (es.drop (k + 1)) = [] := List.eq_nil_of_length_eq_zero (by rw [s1.out]; omega)
    have hsrc : Hid (∀ t u, (eCells (es.drop (k + 1)))[t]? = some u → w.drew.cell? ((⟨g, 0, none⟩ : Addr).add t) = some u) := Lib.hid (by intro t u hu; rw [hnil] at hu; simp at hu)
    have s1' : Hid ((eCells (es.drop (k + 1))).length = 0 * 7) := Lib.hid (by rw [hnil]; rfl)
    clear hnil
    go_enter Try.func86, Try.ntmps86
    go_wp2_with fail
    go_region_law (refine step_append_room rfl (.tmp 22) (.tmp 25) 28 rfl 69 i0 7 hT hi hz1 g 0 k (k + 1) (by simp [Act.eval, Act.put]) ⟨g, 0, none⟩ 0 0 (eCells (es.drop (k + 1))) (by simp [Act.eval, Act.put]) s1'.out hsrc.out s2.out (by omega) s3.out ?_; rw [← HW.out])
    have hcl2 := HCL.out
    rw [show k + 1 - 1 = k by omega, show k + 1 - k = 1 by omega] at hcl2
    have hf2 := HF.out _ rfl
    clear HF HCL
    rw [show k + 1 - 1 = k by omega] at hf2
    go_wp2
    go_ret
    rw [show k + 1 - 1 = k by omega]
    exact ⟨rfl, hf2⟩
  · have hsrc : Hid (∀ t u, (eCells (es.drop (k + 1)))[t]? = some u → w.drew.cell? ((⟨g, (k + 1) * 7, none⟩ : Addr).add t) = some u) := Lib.hid (by
      intro t u hu
      have ht := (List.getElem?_eq_some_iff.1 hu).1
      rw [s1.out] at ht
      rw [hdc, List.getElem?_drop] at hu
      rw [Addr.add_lit]
      exact (h.cellAt ((k + 1) * 7 + t) (by have := row_len h; omega)).trans hu)
    have hcj' : ¬ k + 1 = cap := fun e => hcj e.symm
    go_enter Try.func86, Try.ntmps86
    go_wp2_with fail
    go_region_law (refine step_append_room rfl (.tmp 22) (.tmp 25) 28 rfl 69 i0 7 hT hi hz1 g 0 k cap (by simp [Act.eval, Act.put]) ⟨g, (k + 1) * 7, none⟩ (n - (k + 1)) (cap - (k + 1)) (eCells (es.drop (k + 1))) (by simp [Act.eval, Act.put]) s1.out hsrc.out s2.out (by omega) s3.out ?_; rw [← HW.out])
    have hcl2 := HCL.out
    have hf2 := HF.out _ rfl
    clear HF HCL
    go_wp2
    go_ret
    rw [show (n - (n - 1)) * 7 = 7 by omega]
    exact ⟨rfl, hf2⟩
end Go.Proofs.Ytdkdfehlmphikaa
