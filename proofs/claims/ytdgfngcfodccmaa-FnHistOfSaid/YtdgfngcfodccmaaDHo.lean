/- The draw of times for a histogram. No condition. -/
import Derived.Test.YtdgfngcfodccmaaApp
namespace Go.Proofs.Ytdgfngcfodccmaa
open Go.RowKit
variable {D : Nat}
/-- A list of at most 61 small numbers; nothing that was there has turned. -/
def RetDL (w : World) (most : Nat) (lo hi : Int) (e : Ending) (w' : World) : Prop :=
  ∃ (b cap : Nat) (xs : List Int), e = .returned (.slice (some ⟨b, 0, none⟩) xs.length cap) ∧ xs.length ≤ most ∧ (∀ x ∈ xs, lo ≤ x ∧ x ≤ hi) ∧
    w'.ownsRow w.heap.size 3 1 (.slice (some ⟨b, 0, none⟩) xs.length cap) xs.length (xs.map (Value.int .i64)) ∧ Below w.heap.size w w'
theorem in_snoc {xs : List Int} {lo hi k : Int} (h : ∀ x ∈ xs, lo ≤ x ∧ x ≤ hi) (h1 : lo ≤ k) (h2 : k ≤ hi) : ∀ x ∈ xs ++ [k], lo ≤ x ∧ x ≤ hi := by
  intro x hx
  rcases List.mem_append.1 hx with h' | h'
  · exact h x h'
  · simp only [List.mem_cons, List.not_mem_nil, or_false] at h'; subst h'; exact ⟨h1, h2⟩
set_option maxHeartbeats 2000000 in
theorem s_DrawHistOf (a : Option Addr) (len cap : Nat) (w : World) (hcl : len ≤ cap) (hcap : cap ≤ maxLen) (h : Code w.heap.size w a len) :
    Calls Try.prog 23 #[.slice a len cap] w (RetDL w 61 (-1) 10200) := by
  obtain ⟨i0, hi, hz0, hz1, hz2⟩ := info_parts infoInt8
  have HC := Lib.hid h
  clear h
  go_enter Try.func23, Try.ntmps23
  go_wp2_with fail
  refine (c_open (D := w.heap.size) a len cap _ hcl hcap (by simp) HC.out).mono ?_
  rintro e w1 ⟨g, rfl, hg, hr, hb⟩
  have HR := Lib.hid hr
  have HB := Lib.hid hb
  have hz := hb.size
  have hglt := hr.lt
  clear hr hb
  generalize hB0 : w1.heap.size = B0 at *
  go_wp2_with fail
  refine (c_pick g 0 12 _ (HR.out.keep (grownBy_alloc _ _ _)) (by omega) (by omega) (by omega)).mono ?_
  rintro e w2 ⟨x, rfl, x0, x1, _, hr2, hg2⟩
  have x1 := x1 (by omega)
  obtain ⟨j0, rfl⟩ := Int.eq_ofNat_of_zero_le x0
  have HR2 := Lib.hid hr2
  have HG2 := Lib.hid (grownBy_tr (grownBy_alloc w1 (some g) (.cells #[] 3)) hg2)
  have HO2 := Lib.hid ((own_empty w1).kept hg2 (.inr (by simp [Value.ownBlock]; omega)))
  rw [hB0] at HO2
  clear hr2 hg2
  go_wp2
  go_loopw [4, 5] (fun v i wr => ∃ (j q b cap : Nat) (xs : List Int), v = .slice (some ⟨b, 0, none⟩) xs.length cap ∧ i = .int .i64 j ∧ xs.length + j ≤ 11 ∧ q ≤ 1 + 3 * xs.length ∧ (∀ x ∈ xs, -1 ≤ x ∧ x ≤ 10200) ∧
    wr.ownsRow B0 3 1 (.slice (some ⟨b, 0, none⟩) xs.length cap) xs.length (xs.map (Value.int .i64)) ∧ Rd w.heap.size wr g q ∧ w1.grownBy wr (some g)) (fun _ i _ => (intOf i).toNat)
  case atStart => exact ⟨j0, 1, w1.heap.size, 0, [], by rw [hB0]; rfl, rfl, by simp; omega, by simp, by simp, by rw [hB0]; exact HO2.out, HR2.out, HG2.out⟩
  case round =>
    obtain ⟨j, q, b, c, xs, rfl, rfl, hj, hq, hx, hown, hr3, hgr⟩ := hrel
    have HX := Lib.hid hx
    have HO3 := Lib.hid hown
    have HR3 := Lib.hid hr3
    have HG3 := Lib.hid hgr
    obtain ⟨hbl, _⟩ := hown.lt b rfl
    clear hown hgr hr3 hx HO2 HG2 HR2
    by_cases hlt : 0 < j
    · go_wp2_with fail
      refine (c_pick g q 256 _ HR3.out (by omega) (by omega) (by omega)).mono ?_
      rintro e w3 ⟨x, rfl, y0, y1, _, hr4, hg4⟩
      have y1 := y1 (by omega)
      have HR4 := Lib.hid hr4
      have HG4 := Lib.hid (grownBy_tr HG3.out hg4)
      have HO4 := Lib.hid (HO3.out.kept hg4 (.inr (by simp [Value.ownBlock]; omega)))
      clear hr4 hg4
      go_wp2_with fail
      refine (c_pick g (q + 1) 256 _ HR4.out (by omega) (by omega) (by omega)).mono ?_
      rintro e w4 ⟨y, rfl, u0, u1, _, hr5, hg5⟩
      have u1 := u1 (by omega)
      have HR5' := Lib.hid hr5
      have HG5' := Lib.hid (grownBy_tr HG4.out hg5)
      have HO5' := Lib.hid (HO4.out.kept hg5 (.inr (by simp [Value.ownBlock]; omega)))
      have hg4' : g < w4.heap.size := hr5.lt
      clear hr5 hg5
      have hwy : IntKind.i64.wrap (y * 40) = y * 40 := IntWalk.i64_in _ (by omega)
      go_wp2_with fail
      refine (c_pick g (q + 2) 3 _ (HR5'.out.keep (grownBy_alloc _ _ _)) (by omega) (by omega) (by omega)).mono ?_
      rintro e w5 ⟨t, rfl, t0, t1, _, hr6, hg6⟩
      have t1 := t1 (by omega)
      have HR5 := Lib.hid hr6
      have HG5 := Lib.hid (grownBy_tr (gb_alloc HG5'.out (.cells #[.int .i64 x, .int .i64 (y * 40), .int .i64 0] 3)) hg6)
      have HO5 := Lib.hid ((HO5'.out.alloc (.cells #[.int .i64 x, .int .i64 (y * 40), .int .i64 0] 3)).kept hg6 (.inr (by simp [Value.ownBlock]; omega)))
      have B5 := Lib.hid ((Box.new w4 3 [.int .i64 x, .int .i64 (y * 40), .int .i64 0]).by hg6 (by omega))
      have z5 : B0 ≤ w5.heap.size := by have := HG5.out.size; omega
      clear hr6 hg6 hwy HR5' HG5' HO5'
      have e0 := B5.out.cell 0
      have e1 := B5.out.cell 1
      have e2 := B5.out.cell 2
      simp only [List.getElem?_cons_zero, List.getElem?_cons_succ] at e0 e1 e2
      have ht : t = 0 ∨ t = 1 ∨ t = 2 := by omega
      clear t0 t1
      rcases ht with rfl | rfl | rfl
      · go_wp2_with (at_builtin; refine wpList_append_lies _ rfl (.tmp 15) (.tmp 26) 32 rfl B0 3 i0 (.int .i64 0) 1 8 Try.underlying32 hi hz0 hz1 hz2 rfl (by decide) _ _ _ rfl (HO5.out.alloc _) _ 1 1 [.int .i64 x] rfl rfl (news_one _ _ _) (one_cell x) (by decide) ?c1 ?c2 ?c3 _ rfl ?c4)
        case c1 => unfold maxLen; omega
        case c2 => omega
        case c3 => simp; omega
        case c4 =>
          intro b' cap' w6 hown hgrow hat hlt6
          have HR6 := Lib.hid ((HR5.out.keep (grownBy_alloc _ _ _)).far (b := b) hgrow (by omega) (by omega))
          have HG6 := Lib.hid (gb_own (b := b) (gb_alloc HG5.out _) hgrow (by omega))
          have HO6 := Lib.hid hown
          clear hown hgrow hat
          go_wp2
          go_roundw
          case rel =>
            refine ⟨j - 1, q + 3, b', cap', xs ++ [x], by simp, by go_num, by simp; omega, by simp only [List.length_append, List.length_cons, List.length_nil]; omega, in_snoc HX.out (by omega) (by omega), ?_, HR6.out, HG6.out⟩
            have := HO6.out
            simpa using this
          case measure => simp [intOf]; omega
      · go_wp2_with (at_builtin; refine wpList_append_lies _ rfl (.tmp 15) (.tmp 26) 32 rfl B0 3 i0 (.int .i64 0) 1 8 Try.underlying32 hi hz0 hz1 hz2 rfl (by decide) _ _ _ rfl (HO5.out.alloc _) _ 1 1 [.int .i64 (y * 40)] rfl rfl (news_one _ _ _) (one_cell (y * 40)) (by decide) ?c1 ?c2 ?c3 _ rfl ?c4)
        case c1 => unfold maxLen; omega
        case c2 => omega
        case c3 => simp; omega
        case c4 =>
          intro b' cap' w6 hown hgrow hat hlt6
          have HR6 := Lib.hid ((HR5.out.keep (grownBy_alloc _ _ _)).far (b := b) hgrow (by omega) (by omega))
          have HG6 := Lib.hid (gb_own (b := b) (gb_alloc HG5.out _) hgrow (by omega))
          have HO6 := Lib.hid hown
          clear hown hgrow hat
          go_wp2
          go_roundw
          case rel =>
            refine ⟨j - 1, q + 3, b', cap', xs ++ [(y * 40)], by simp, by go_num, by simp; omega, by simp only [List.length_append, List.length_cons, List.length_nil]; omega, in_snoc HX.out (by omega) (by omega), ?_, HR6.out, HG6.out⟩
            have := HO6.out
            simpa using this
          case measure => simp [intOf]; omega
      · go_wp2_with (at_builtin; refine wpList_append_lies _ rfl (.tmp 15) (.tmp 26) 32 rfl B0 3 i0 (.int .i64 0) 1 8 Try.underlying32 hi hz0 hz1 hz2 rfl (by decide) _ _ _ rfl (HO5.out.alloc _) _ 1 1 [.int .i64 (0 : Int)] rfl rfl (news_one _ _ _) (one_cell (0 : Int)) (by decide) ?c1 ?c2 ?c3 _ rfl ?c4)
        case c1 => unfold maxLen; omega
        case c2 => omega
        case c3 => simp; omega
        case c4 =>
          intro b' cap' w6 hown hgrow hat hlt6
          have HR6 := Lib.hid ((HR5.out.keep (grownBy_alloc _ _ _)).far (b := b) hgrow (by omega) (by omega))
          have HG6 := Lib.hid (gb_own (b := b) (gb_alloc HG5.out _) hgrow (by omega))
          have HO6 := Lib.hid hown
          clear hown hgrow hat
          go_wp2
          go_roundw
          case rel =>
            refine ⟨j - 1, q + 3, b', cap', xs ++ [(0 : Int)], by simp, by go_num, by simp; omega, by simp only [List.length_append, List.length_cons, List.length_nil]; omega, in_snoc HX.out (by omega) (by omega), ?_, HR6.out, HG6.out⟩
            have := HO6.out
            simpa using this
          case measure => simp [intOf]; omega
    · go_wp2_with fail
      refine (c_odd g q 9 _ HR3.out (by omega) (by omega) (by omega)).mono ?_
      rintro e w3 ⟨od, rfl, ⟨q2, hq2, hr4⟩, hg4⟩
      have HR4 := Lib.hid hr4
      have HG4 := Lib.hid (grownBy_tr HG3.out hg4)
      have HO4 := Lib.hid (HO3.out.kept hg4 (.inr (by simp [Value.ownBlock]; omega)))
      have z4 : B0 ≤ w3.heap.size := by have := HG4.out.size; omega
      clear hr4 hg4
      cases od
      · go_wp2_with fail
        refine (c_odd g q2 24 _ HR4.out (by omega) (by omega) (by omega)).mono ?_
        rintro e w7 ⟨od, rfl, _, hg7⟩
        have HG7 := Lib.hid (grownBy_tr HG4.out hg7)
        have HO7 := Lib.hid (HO4.out.kept hg7 (.inr (by simp [Value.ownBlock]; omega)))
        clear hg7
        cases od
        · go_wp2_with fail
          go_ret
          exact ⟨_, _, _, rfl, by omega, HX.out, HO7.out.mono (by omega), HB.out.trans (gb_below HG7.out (by omega) (by omega))⟩
        · go_wp2_with (at_make; refine wpList_make_full _ rfl _ _ 32 rfl w.heap.size 3 i0 (.int .i64 0) 1 Try.underlying32 hi hz0 hz1 .i64 .i64 _ _ 61 rfl rfl rfl rfl ?c1 ?c2 ?c3 ?c4)
          case c1 => rw [hz2]; omega
          case c2 => unfold maxLen; omega
          case c3 => have := HG7.out.size; omega
          case c4 =>
            intro w8 hown hgr
            have q8 := HB.out.trans (gb_below (gb_none HG7.out hgr) (by omega) (by omega))
            go_wp2_with fail
            go_ret
            exact ⟨w7.heap.size, 61, List.replicate 61 0, rfl, by simp, fun x hx => by have := List.eq_of_mem_replicate hx; omega, by
              have e : (madeCells #[Value.int .i64 0] 61).toList = (List.replicate 61 (0 : Int)).map (Value.int .i64) := by
                first | rfl | kernel_rfl
              rw [← e]; exact hown, q8⟩
      · go_wp2_with (at_builtin; refine wpList_append_lies _ rfl (.tmp 30) (.tmp 31) 32 rfl B0 3 i0 (.int .i64 0) 1 8 Try.underlying32 hi hz0 hz1 hz2 rfl (by decide) _ _ _ rfl (HO4.out.alloc _) _ 1 1 [.int .i64 (-1)] rfl rfl (news_one _ _ _) (one_cell (-1)) (by decide) ?c1 ?c2 ?c3 _ rfl ?c4)
        case c1 => unfold maxLen; omega
        case c2 => omega
        case c3 => simp; omega
        case c4 =>
          intro b' cap' w6 hown hgrow hat hlt6
          have HR6 := Lib.hid ((HR4.out.keep (grownBy_alloc _ _ _)).far (b := b) hgrow (by omega) (by omega))
          have HG6 := Lib.hid (gb_own (b := b) (gb_alloc HG4.out _) hgrow (by omega))
          have HO6 := Lib.hid hown
          have HX6 := Lib.hid (in_snoc (k := -1) HX.out (by omega) (by omega))
          have hl6 : (xs ++ [(-1 : Int)]).length = xs.length + 1 := by simp
          rw [show xs.map (Value.int .i64) ++ [Value.int .i64 (-1)] = (xs ++ [(-1 : Int)]).map (Value.int .i64) from by simp, ← hl6] at HO6
          rw [← hl6]
          have hl7 : (xs ++ [(-1 : Int)]).length ≤ 12 := by omega
          obtain ⟨hbl', _⟩ := HO6.out.lt b' rfl
          have hq3 : q2 ≤ 40 := by omega
          clear hown hgrow hat HR4 HG4 HO4 HX HO3 HR3 HG3 hl6 hj hq hbl
          generalize xs ++ [(-1 : Int)] = xs at *
          have HR4 := HR6
          have HG4 := HG6
          have HO4 := HO6
          have HX := HX6
          clear HR6 HG6 HO6 HX6
          go_wp2_with fail
          refine (c_odd g q2 24 _ HR4.out (by omega) (by omega) (by omega)).mono ?_
          rintro e w7 ⟨od, rfl, _, hg7⟩
          have HG7 := Lib.hid (grownBy_tr HG4.out hg7)
          have HO7 := Lib.hid (HO4.out.kept hg7 (.inr (by simp [Value.ownBlock]; omega)))
          clear hg7
          cases od
          · go_wp2_with fail
            go_ret
            exact ⟨_, _, _, rfl, by omega, HX.out, HO7.out.mono (by omega), HB.out.trans (gb_below HG7.out (by omega) (by omega))⟩
          · go_wp2_with (at_make; refine wpList_make_full _ rfl _ _ 32 rfl w.heap.size 3 i0 (.int .i64 0) 1 Try.underlying32 hi hz0 hz1 .i64 .i64 _ _ 61 rfl rfl rfl rfl ?c1 ?c2 ?c3 ?c4)
            case c1 => rw [hz2]; omega
            case c2 => unfold maxLen; omega
            case c3 => have := HG7.out.size; omega
            case c4 =>
              intro w8 hown hgr
              have q8 := HB.out.trans (gb_below (gb_none HG7.out hgr) (by omega) (by omega))
              go_wp2_with fail
              go_ret
              exact ⟨w7.heap.size, 61, List.replicate 61 0, rfl, by simp, fun x hx => by have := List.eq_of_mem_replicate hx; omega, by
                have e : (madeCells #[Value.int .i64 0] 61).toList = (List.replicate 61 (0 : Int)).map (Value.int .i64) := by
                  first | rfl | kernel_rfl
                rw [← e]; exact hown, q8⟩
end Go.Proofs.Ytdgfngcfodccmaa
