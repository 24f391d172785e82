/- Contract of the reference's HistJoin. No condition but lists of at most 2^20 numbers. -/
import Derived.Test.YtdgfngcfodccmaaHistJ
namespace Go.Proofs.Ytdgfngcfodccmaa
open Go.RowKit
theorem gbJ_dr {w w' : World} {r : Option Nat} (h : w.grownBy w' r) : w.grownBy w'.drew r := ⟨h.os, h.tape, h.output, h.size, h.block⟩
theorem own_mt {B : Nat} (w : World) (h : B ≤ w.heap.size) : (w.alloc (.cells #[] 3)).ownsRow B 3 1 (.slice (some ⟨w.heap.size, 0, none⟩) 0 0) 0 [] :=
  ⟨rfl, .inr ⟨w.heap.size, 0, #[], rfl, h, heap_alloc_new w _, Nat.le_refl _, by unfold maxLen; omega, rfl, rfl⟩⟩
set_option maxHeartbeats 1000000 in
theorem s_HistJoin (a : Option Addr) (n cap : Nat) (xs : List Int) (a' : Option Addr) (n' cap' : Nat) (ys : List Int) (w : World) (hxs : xs.length = n) (hn : n ≤ 1048576) (h : Ints w a xs) (hys : ys.length = n') (hn2 : n' ≤ 1048576) (h' : Ints w a' ys) :
    Calls Try.prog 15 #[.slice a n cap, .slice a' n' cap'] w (RetJoin w (joinV xs ys) (joinOk xs ys)) := by
  obtain ⟨i0, hi, hz0, hz1, hz2⟩ := info_parts infoIntJ
  have HI := Lib.hid h
  have HJ := Lib.hid h'
  clear h h'
  by_cases hbad : hv xs = false ∨ hv ys = false
  · have e1 : joinOk xs ys = false := by rcases hbad with h | h <;> simp [joinOk, h]
    have e2 : joinV xs ys = [] := by simp [joinV, e1]
    rw [e1, e2]
    have HE0 := Lib.hid (ownsRow.ints (xs := []) (own_mt w (Nat.le_refl w.heap.size)))
    have HZ : w.heap.size ≤ (w.alloc (.cells #[] 3)).heap.size := by simp
    have HI0 := Lib.hid (HI.out.below (grown_below (gbJ_al (World.grownBy.refl w none) (.cells #[] 3))))
    have HJ0 := Lib.hid (HJ.out.below (grown_below (gbJ_al (World.grownBy.refl w none) (.cells #[] 3))))
    have HG0 := Lib.hid (gbJ_al (World.grownBy.refl w none) (.cells #[] 3))
    generalize hw1 : w.alloc (.cells #[] 3) = w1 at *
    go_enter Try.func15, Try.ntmps15
    go_wp2
    go_loopw [6, 7] (fun v i wr => v = .slice (some ⟨w.heap.size, 0, none⟩) 0 0 ∧ i = .int .i64 0 ∧ wr = w1) (fun _ i _ => 0)
    case atStart => exact ⟨rfl, rfl, rfl⟩
    case round =>
      obtain ⟨rfl, rfl, rfl⟩ := hrel
      clear hw1
      by_cases hn0 : 0 < n
      · cases h1 : hv xs
        · go_wp2_with fail
          refine (s_HistValid a n cap xs _ hxs hn HI0.out).mono ?_; rintro e w' ⟨rfl, rfl⟩
          rw [h1]
          go_wp2_with fail
          refine (s_HistValid _ 0 0 [] _ rfl (by omega) HE0.out).mono ?_; rintro e w' ⟨rfl, rfl⟩
          rw [hv_nil]
          go_wp2_with fail
          refine bodyPost_ret (v := .tuple #[.slice (some ⟨wr.heap.size, 0, none⟩) 0 0, .bool false]) (by simp [results, Try.results15, go_sem]) rfl ?_
          exact ⟨some ⟨wr.heap.size, 0, none⟩, 0, rfl, own_mt wr HZ, gbJ_al HG0.out _⟩
        · have h2 : hv ys = false := by rcases hbad with h | h
                                        · rw [h1] at h; cases h
                                        · exact h
          go_wp2_with fail
          refine (s_HistValid a n cap xs _ hxs hn HI0.out).mono ?_; rintro e w' ⟨rfl, rfl⟩
          rw [h1]
          go_wp2_with fail
          refine (s_HistValid a' n' cap' ys _ hys hn2 HJ0.out).mono ?_; rintro e w' ⟨rfl, rfl⟩
          rw [h2]
          go_wp2_with fail
          refine (s_HistValid _ 0 0 [] _ rfl (by omega) HE0.out).mono ?_; rintro e w' ⟨rfl, rfl⟩
          rw [hv_nil]
          go_wp2_with fail
          refine bodyPost_ret (v := .tuple #[.slice (some ⟨wr.heap.size, 0, none⟩) 0 0, .bool false]) (by simp [results, Try.results15, go_sem]) rfl ?_
          exact ⟨some ⟨wr.heap.size, 0, none⟩, 0, rfl, own_mt wr HZ, gbJ_al HG0.out _⟩
      · obtain rfl : n = 0 := by omega
        go_wp2_with fail
        refine (s_HistValid _ 0 0 [] _ rfl (by omega) HE0.out).mono ?_; rintro e w' ⟨rfl, rfl⟩
        rw [hv_nil]
        go_wp2_with fail
        refine bodyPost_ret (v := .tuple #[.slice (some ⟨wr.heap.size, 0, none⟩) 0 0, .bool false]) (by simp [results, Try.results15, go_sem]) rfl ?_
        exact ⟨some ⟨wr.heap.size, 0, none⟩, 0, rfl, own_mt wr HZ, gbJ_al HG0.out _⟩
  have h1 : hv xs = true := by cases h : hv xs <;> simp_all
  have h2 : hv ys = true := by cases h : hv ys <;> simp_all
  have hx13 := hv_len h1
  have hy13 := hv_len h2
  obtain rfl : n = 13 := by omega
  obtain rfl : n' = 13 := by omega
  have HX := Lib.hid (fun k (hk : k < xs.length) => hv_get h1 hk)
  have HY := Lib.hid (fun k (hk : k < ys.length) => hv_get h2 hk)
  rcases HI.out with h0 | ⟨b, off, ha, hbl, hcell⟩
  · rw [h0] at hx13; simp at hx13
  rcases HJ.out with h0 | ⟨b2, off2, ha2, hbl2, hcell2⟩
  · rw [h0] at hy13; simp at hy13
  subst ha ha2
  clear hcell hcell2 hbad
  go_enter Try.func15, Try.ntmps15
  go_wp2
  go_loopw [6, 7] (fun v i wr => ∃ (k g c : Nat), k ≤ 13 ∧ i = .int .i64 k ∧ v = .slice (some ⟨g, 0, none⟩) k c ∧ wr.ownsRow w.heap.size 3 1 (.slice (some ⟨g, 0, none⟩) k c) k ((sums xs ys k).map (Value.int .i64)) ∧ w.grownBy wr none) (fun _ i _ => 13 - (intOf i).toNat)
  case atStart => exact ⟨0, w.heap.size, 0, Nat.zero_le _, rfl, rfl, ⟨rfl, .inr ⟨w.heap.size, 0, #[], rfl, Nat.le_refl _, heap_alloc_new w _, Nat.le_refl _, by unfold maxLen; omega, rfl, rfl⟩⟩, gbJ_al (World.grownBy.refl _ _) _⟩
  case round =>
    obtain ⟨k, g, c, hk, rfl, rfl, hown, hgr⟩ := hrel
    have HO := Lib.hid hown
    have HG := Lib.hid hgr
    have HB := Lib.hid (grown_below hgr)
    have hz := hgr.size
    clear hown hgr
    have HIr := Lib.hid (HI.out.below HB.out)
    have HJr := Lib.hid (HJ.out.below HB.out)
    by_cases hlt : k < 13
    · have c1 : wr.cell? ⟨b, off + k, none⟩ = some (.int .i64 (xs.getD k 0)) := by
        rcases HIr.out with h0 | ⟨_, _, he, _, hc⟩
        · rw [h0] at hx13; simp at hx13
        · injection he with he; injection he with e1 e2; subst e1 e2; exact hc k (by omega)
      have c2 : wr.cell? ⟨b2, off2 + k, none⟩ = some (.int .i64 (ys.getD k 0)) := by
        rcases HJr.out with h0 | ⟨_, _, he, _, hc⟩
        · rw [h0] at hy13; simp at hy13
        · injection he with he; injection he with e1 e2; subst e1 e2; exact hc k (by omega)
      obtain ⟨x1, x2⟩ := HX.out k (by omega)
      obtain ⟨y1, y2⟩ := HY.out k (by omega)
      have HS := Lib.hid (sums_succ xs ys k)
      generalize xs.getD k 0 = x at *
      generalize ys.getD k 0 = y at *
      go_wp2_with fail
      refine (s_HistValid _ 13 cap xs wr hxs hn HIr.out).mono ?_; rintro e w' ⟨rfl, rfl⟩
      rw [h1]
      go_wp2_with fail
      refine (s_HistValid _ 13 cap' ys wr hys hn2 HJr.out).mono ?_; rintro e w' ⟨rfl, rfl⟩
      rw [h2]
      go_wp2_with fail
      obtain ⟨hgl, _⟩ := HO.out.lt g rfl
      have r1 : wr.drew.cell? ⟨b, off + k, none⟩ = some (.int .i64 x) := c1
      have r2 : wr.drew.cell? ⟨b2, off2 + k, none⟩ = some (.int .i64 y) := c2
      have HO1 := Lib.hid (HO.out.drew.alloc (.cells #[.int .i64 (x + y)] 3))
      have HN := Lib.hid (newsJ wr.drew 3 (.int .i64 (x + y)))
      have hml : k + 1 ≤ maxLen := by unfold maxLen; omega
      have hby : (k + 1) * 8 ≤ 140737488355328 := by omega
      have hbs : w.heap.size ≤ (wr.drew.alloc (.cells #[.int .i64 (x + y)] 3)).heap.size := by simp; omega
      have HM := Lib.hid (And.intro hml (And.intro hby hbs))
      have hwx : IntKind.i64.wrap (x + y) = x + y := IntWalk.i64_in _ (by omega)
      clear hml hby hbs
      go_region_held3 (fun w' => w'.cell? ⟨b, off + k, none⟩ = some (.int .i64 x) ∧ w'.cell? ⟨b2, off2 + k, none⟩ = some (.int .i64 y)) (first | assumption | go_keep | (refine ⟨?_, ?_⟩ <;> first | assumption | go_keep))
        (first
          | (refine step_append_lies _ rfl (.tmp 23) (.tmp 33) 32 rfl w.heap.size 3 i0 (.int .i64 0) 1 8 Try.underlying32 hi hz0 hz1 hz2 rfl (by decide) (.slice (some ⟨g, 0, none⟩) k c) k _ (by simp [Act.eval]) HO1.out ⟨wr.heap.size, 0, none⟩ 1 1 [.int .i64 (x + y)] (by simp [Act.eval]) rfl HN.out (oneJ _) (by decide) HM.out.1 HM.out.2.1 HM.out.2.2 _ rfl ?_
             intro b' cap'' w4 hown4 hgrow4 hat4 hlt4
             have kk0 : w4.cell? ⟨b, off + k, none⟩ = some (.int .i64 x) := hgrow4.cell (keep r1 _) (by simp [Value.ownBlock]; omega)
             have kk1 : w4.cell? ⟨b2, off2 + k, none⟩ = some (.int .i64 y) := hgrow4.cell (keep r2 _) (by simp [Value.ownBlock]; omega)))
      clear kk0 kk1
      have HG4 := Lib.hid (gbJ (gbJ_al (gbJ_dr HG.out) (.cells #[.int .i64 (x + y)] 3)) HO1.out hgrow4)
      have HO4 := Lib.hid hown4
      clear hown4 hgrow4 hat4
      go_wp2
      go_roundw
      case rel =>
        refine ⟨k + 1, b', cap'', by omega, by go_num, rfl, ?_, HG4.out⟩
        have := HO4.out
        rw [HS.out, List.map_append]
        exact this
      case measure => simp [intOf]; omega
    · obtain rfl : k = 13 := by omega
      have HI4 := Lib.hid (own_ints HO.out)
      cases h3 : hv (sums xs ys 13)
      · have e1 : joinOk xs ys = false := by simp [joinOk, h3]
        have e2 : joinV xs ys = [] := by simp [joinV, e1]
        have HE := Lib.hid (And.intro e1 e2)
        clear e1 e2
        go_wp2_with fail
        refine (s_HistValid _ 13 c (sums xs ys 13) wr (sums_len _ _ _) (by omega) HI4.out.1).mono ?_; rintro e w' ⟨rfl, rfl⟩
        rw [h3]
        go_wp2_with fail
        refine bodyPost_ret (v := .tuple #[.slice (some ⟨wr.heap.size, 0, none⟩) 0 0, .bool false]) (by simp [results, Try.results15, go_sem]) rfl ?_
        rw [HE.out.1, HE.out.2]
        exact ⟨some ⟨wr.heap.size, 0, none⟩, 0, rfl, own_mt wr hz, gbJ_al HG.out _⟩
      · have e1 : joinOk xs ys = true := by simp [joinOk, h1, h2, h3]
        have e2 : joinV xs ys = sums xs ys 13 := by simp [joinV, e1]
        have HE := Lib.hid (And.intro e1 e2)
        clear e1 e2
        go_wp2_with fail
        refine (s_HistValid _ 13 c (sums xs ys 13) wr (sums_len _ _ _) (by omega) HI4.out.1).mono ?_; rintro e w' ⟨rfl, rfl⟩
        rw [h3]
        go_wp2_with fail
        refine bodyPost_ret (v := .tuple #[.slice (some ⟨g, 0, none⟩) 13 c, .bool true]) (by simp [results, Try.results15, go_sem]) rfl ?_
        have := HO.out
        rw [HE.out.1, HE.out.2]
        refine ⟨some ⟨g, 0, none⟩, c, by rw [sums_len], ?_, HG.out⟩
        rw [sums_len]
        exact this
end Go.Proofs.Ytdgfngcfodccmaa
