/- The draw of times, a limit and a pause. No condition. -/
import Derived.Test.YtdpmlkigmadajaaApp
import Derived.Test.YtdpmlkigmadajaaTyI
namespace Go.Proofs.Ytdpmlkigmadajaa
open Go.RowKit
variable {D : Nat}
/-- A list of small numbers, and two numbers; nothing that was there has turned. -/
def RetBR (w : World) (e : Ending) (w' : World) : Prop :=
  ∃ (b cap : Nat) (xs : List Int) (most pause : Int), e = .returned (.tuple #[.slice (some ⟨b, 0, none⟩) xs.length cap, .int .i64 most, .int .i64 pause]) ∧ xs.length ≤ 14 ∧ (∀ x ∈ xs, -1 ≤ x ∧ x ≤ 100001) ∧ 0 ≤ most ∧ most ≤ 4 ∧ 0 ≤ pause ∧ pause ≤ 20 ∧
    w'.ownsRow w.heap.size 3 1 (.slice (some ⟨b, 0, none⟩) xs.length cap) xs.length (xs.map (Value.int .i64)) ∧ Below w.heap.size w w'
theorem in_snoc {xs : List Int} {lo hi k : Int} (h : ∀ x ∈ xs, lo ≤ x ∧ x ≤ hi) (h1 : lo ≤ k) (h2 : k ≤ hi) : ∀ x ∈ xs ++ [k], lo ≤ x ∧ x ≤ hi := by
  intro x hx
  rcases List.mem_append.1 hx with h' | h'
  · exact h x h'
  · simp only [List.mem_cons, List.not_mem_nil, or_false] at h'; subst h'; exact ⟨h1, h2⟩
set_option maxHeartbeats 2000000 in
theorem s_DrawBreakerRun (a : Option Addr) (len cap : Nat) (w : World) (hcl : len ≤ cap) (hcap : cap ≤ maxLen) (h : Code w.heap.size w a len) :
    Calls Try.prog 22 #[.slice a len cap] w (RetBR w) := by
  obtain ⟨i0, hi, hz0, hz1, hz2⟩ := info_parts infoInt8
  have HC := Lib.hid h
  clear h
  go_enter Try.func22, Try.ntmps22
  go_wp2_with fail
  refine (c_open (D := w.heap.size) a len cap _ hcl hcap (by simp) HC.out).mono ?_
  rintro e w1 ⟨g, rfl, hg, hr, hb⟩
  have HR := Lib.hid hr
  have HB := Lib.hid hb
  have hz := hb.size
  have hglt := hr.lt
  clear hr hb
  generalize hB0 : w1.heap.size = B0 at *
  go_wp2_with fail
  refine (c_pick g 0 14 _ (HR.out.keep (grownBy_alloc _ _ _)) (by omega) (by omega) (by omega)).mono ?_
  rintro e w2 ⟨x, rfl, x0, x1, _, hr2, hg2⟩
  have x1 := x1 (by omega)
  obtain ⟨j0, rfl⟩ := Int.eq_ofNat_of_zero_le x0
  have HR2 := Lib.hid hr2
  have HG2 := Lib.hid (grownBy_tr (grownBy_alloc w1 (some g) (.cells #[] 3)) hg2)
  have HO2 := Lib.hid ((own_empty w1).kept hg2 (.inr (by simp [Value.ownBlock]; omega)))
  rw [hB0] at HO2
  clear hr2 hg2
  go_wp2
  go_loopw [6, 7, 8] (fun v t i wr => ∃ (j q b cap : Nat) (xs : List Int) (now : Int), v = .slice (some ⟨b, 0, none⟩) xs.length cap ∧ i = .int .i64 j ∧ t = .int .i64 now ∧ 0 ≤ now ∧ now ≤ 8 * (xs.length : Int) ∧ xs.length + j ≤ 13 ∧ q ≤ 1 + xs.length ∧ (∀ x ∈ xs, -1 ≤ x ∧ x ≤ 100001) ∧
    wr.ownsRow B0 3 1 (.slice (some ⟨b, 0, none⟩) xs.length cap) xs.length (xs.map (Value.int .i64)) ∧ Rd w.heap.size wr g q ∧ w1.grownBy wr (some g)) (fun _ _ i _ => (intOf i).toNat)
  case atStart => exact ⟨j0, 1, w1.heap.size, 0, [], 0, by rw [hB0]; rfl, rfl, rfl, by omega, by simp, by simp; omega, by simp, by simp, by rw [hB0]; exact HO2.out, HR2.out, HG2.out⟩
  case round =>
    obtain ⟨j, q, b, c, xs, now, rfl, rfl, rfl, n0, n1, hj, hq, hx, hown, hr3, hgr⟩ := hrel
    have HX := Lib.hid hx
    have HO3 := Lib.hid hown
    have HR3 := Lib.hid hr3
    have HG3 := Lib.hid hgr
    obtain ⟨hbl, _⟩ := hown.lt b rfl
    clear hown hgr hr3 hx HO2 HG2 HR2
    by_cases hlt : 0 < j
    · go_wp2_with fail
      refine (c_pick g q 8 _ HR3.out (by omega) (by omega) (by omega)).mono ?_
      rintro e w3 ⟨x, rfl, y0, y1, _, hr4, hg4⟩
      have y1 := y1 (by omega)
      have HR5 := Lib.hid hr4
      have HG5 := Lib.hid (grownBy_tr HG3.out hg4)
      have HO5 := Lib.hid (HO3.out.kept hg4 (.inr (by simp [Value.ownBlock]; omega)))
      have z5 : B0 ≤ w3.heap.size := by have := HG5.out.size; omega
      clear hr4 hg4
      go_wp2_with (at_builtin; refine wpList_append_lies _ rfl (.tmp 22) (.tmp 24) 23 rfl B0 3 i0 (.int .i64 0) 1 8 Try.underlying23 hi hz0 hz1 hz2 rfl (by decide) _ _ _ rfl (HO5.out.alloc _) _ 1 1 [.int .i64 (now + x)] rfl rfl (news_one _ _ _) (one_cell (now + x)) (by decide) ?c1 ?c2 ?c3 _ rfl ?c4)
      case c1 => unfold maxLen; omega
      case c2 => omega
      case c3 => simp; omega
      case c4 =>
        intro b' cap' w6 hown hgrow hat hlt6
        have HR6 := Lib.hid ((HR5.out.keep (grownBy_alloc _ _ _)).far (b := b) hgrow (by omega) (by omega))
        have HG6 := Lib.hid (gb_own (b := b) (gb_alloc HG5.out _) hgrow (by omega))
        have HO6 := Lib.hid hown
        clear hown hgrow hat
        go_wp2
        go_roundw
        case rel =>
          refine ⟨j - 1, q + 1, b', cap', xs ++ [now + x], now + x, by simp, by go_num, rfl, by omega, by simp; omega, by simp; omega, by simp only [List.length_append, List.length_cons, List.length_nil]; omega, in_snoc HX.out (by omega) (by omega), ?_, HR6.out, HG6.out⟩
          have := HO6.out
          simpa using this
        case measure => simp [intOf]; omega
    · go_wp2_with fail
      refine (c_odd g q 12 _ HR3.out (by omega) (by omega) (by omega)).mono ?_
      rintro e w3 ⟨od, rfl, ⟨q2, hq2, hr4⟩, hg4⟩
      have HR4 := Lib.hid hr4
      have HG4 := Lib.hid (grownBy_tr HG3.out hg4)
      have HO4 := Lib.hid (HO3.out.kept hg4 (.inr (by simp [Value.ownBlock]; omega)))
      have z4 : B0 ≤ w3.heap.size := by have := HG4.out.size; omega
      clear hr4 hg4
      cases od
      · go_wp2_with fail
        refine region_checked_id (D := w.heap.size) _ 0 false 21 55 g q2 [(5, .rd)] [(5, .rd), (36, .any), (37, .rd), (38, .int 0 3), (39, .int 1 4), (40, .sl [(1, 4), (0, 0)]), (41, .rd), (42, .int 0 8), (43, .int 0 1), (44, .pt 0 4), (45, .int 0 4), (46, .rd), (47, .int 0 19), (48, .int 1 20), (49, .sl [(1, 20), (0, 0)]), (50, .rd), (51, .int 0 8), (52, .int 0 1), (53, .pt 0 20), (54, .int 0 20), (2, .any), (3, .int 0 4)] [36, 37, 38, 39, 40, 41, 42, 43, 44, 45, 46, 47, 48, 49, 50, 51, 52, 53, 54, 2, 3] [(36, 6), (2, 6)] rfl (by kernel_rfl) (by kernel_rfl) (fun h => by cases h) ?_ HR4.out (by omega) ?_
        · intro q hq
          simp only [List.mem_cons, List.not_mem_nil, or_false] at hq
          subst hq
          rfl
        intro f w8 hf hgr hrd
        have hv2 := (hf 2 (by decide)).2 6 (by decide)
        obtain ⟨most, hv3, m1, m2⟩ := (hf 3 (by decide)).1
        obtain ⟨pause, hv4, u1, u2⟩ := (hf 54 (by decide)).1
        have m1 : 0 ≤ most := m1
        have m2 : most ≤ 4 := m2
        have u1 : 0 ≤ pause := u1
        have u2 : pause ≤ 20 := u2
        have hv2 : f 2 = .slice (some ⟨b, 0, none⟩) xs.length c := hv2
        clear hf hrd
        have HG8 := Lib.hid (grownBy_tr HG4.out hgr)
        have HO8 := Lib.hid (HO4.out.kept hgr (.inr (by simp [Value.ownBlock]; omega)))
        simp only [List.drop_succ_cons, List.drop_zero, putL, Act.put, List.setIfInBounds_toArray, List.set_cons_succ, List.set_cons_zero, hv2, hv3, hv4]
        clear hv2 hv3 hv4 hgr
        go_wp2_with fail
        refine bodyPost_ret (v := .tuple #[.slice (some ⟨b, 0, none⟩) xs.length c, .int .i64 most, .int .i64 pause]) (by simp [results, Try.results22, go_sem]) rfl ?_
        exact ⟨b, c, xs, most, pause, rfl, by omega, HX.out, m1, m2, u1, u2, HO8.out.mono (by omega), HB.out.trans (gb_below HG8.out (by omega) (by omega))⟩
      · go_wp2_with fail
        refine (c_pick g q2 2 _ (HR4.out.keep (grownBy_alloc _ _ _)) (by omega) (by omega) (by omega)).mono ?_
        rintro e w5 ⟨t, rfl, t0, t1, _, hr6, hg6⟩
        have t1 := t1 (by omega)
        have HR5 := Lib.hid hr6
        have HG5 := Lib.hid (grownBy_tr (gb_alloc HG4.out (.cells #[.int .i64 (-1), .int .i64 100001] 3)) hg6)
        have HO5 := Lib.hid ((HO4.out.alloc (.cells #[.int .i64 (-1), .int .i64 100001] 3)).kept hg6 (.inr (by simp [Value.ownBlock]; omega)))
        have hg4' : g < w3.heap.size := HR4.out.lt
        have B5 := Lib.hid ((Box.new w3 3 [.int .i64 (-1), .int .i64 100001]).by hg6 (by omega))
        have z5 : B0 ≤ w5.heap.size := by have := HG5.out.size; omega
        clear hr6 hg6
        have e0 := B5.out.cell 0
        have e1 := B5.out.cell 1
        simp only [List.getElem?_cons_zero, List.getElem?_cons_succ] at e0 e1
        have hq3 : q2 + 1 ≤ 40 := by omega
        have ht : t = 0 ∨ t = 1 := by omega
        clear t0 t1 HR4 HG4 HO4
        rcases ht with rfl | rfl
        · go_wp2_with (at_builtin; refine wpList_append_lies _ rfl (.tmp 28) (.tmp 34) 23 rfl B0 3 i0 (.int .i64 0) 1 8 Try.underlying23 hi hz0 hz1 hz2 rfl (by decide) _ _ _ rfl (HO5.out.alloc _) _ 1 1 [.int .i64 (-1 : Int)] rfl rfl (news_one _ _ _) (one_cell (-1 : Int)) (by decide) ?c1 ?c2 ?c3 _ rfl ?c4)
          case c1 => unfold maxLen; omega
          case c2 => omega
          case c3 => simp; omega
          case c4 =>
            intro b' cap' w6 hown hgrow hat hlt6
            have HR4 := Lib.hid ((HR5.out.keep (grownBy_alloc _ _ _)).far (b := b) hgrow (by omega) (by omega))
            have HG4 := Lib.hid (gb_own (b := b) (gb_alloc HG5.out _) hgrow (by omega))
            have HO4 := Lib.hid hown
            have HX6 := Lib.hid (in_snoc (k := (-1 : Int)) HX.out (by omega) (by omega))
            have hl6 : (xs ++ [((-1 : Int) : Int)]).length = xs.length + 1 := by simp
            rw [show xs.map (Value.int .i64) ++ [Value.int .i64 (-1 : Int)] = (xs ++ [((-1 : Int) : Int)]).map (Value.int .i64) from by simp, ← hl6] at HO4
            rw [← hl6]
            have hl7 : (xs ++ [((-1 : Int) : Int)]).length ≤ 14 := by omega
            obtain ⟨hbl', _⟩ := HO4.out.lt b' rfl
            clear hown hgrow hat HR5 HG5 HO5 B5 e0 e1 HX HO3 HR3 HG3 hl6 hj hq hbl
            generalize xs ++ [((-1 : Int) : Int)] = xs at *
            have HX := HX6
            clear HX6
            generalize q2 + 1 = q2 at *
            go_wp2_with fail
            refine region_checked_id (D := w.heap.size) _ 0 false 21 55 g q2 [(5, .rd)] [(5, .rd), (36, .any), (37, .rd), (38, .int 0 3), (39, .int 1 4), (40, .sl [(1, 4), (0, 0)]), (41, .rd), (42, .int 0 8), (43, .int 0 1), (44, .pt 0 4), (45, .int 0 4), (46, .rd), (47, .int 0 19), (48, .int 1 20), (49, .sl [(1, 20), (0, 0)]), (50, .rd), (51, .int 0 8), (52, .int 0 1), (53, .pt 0 20), (54, .int 0 20), (2, .any), (3, .int 0 4)] [36, 37, 38, 39, 40, 41, 42, 43, 44, 45, 46, 47, 48, 49, 50, 51, 52, 53, 54, 2, 3] [(36, 6), (2, 6)] rfl (by kernel_rfl) (by kernel_rfl) (fun h => by cases h) ?_ HR4.out (by omega) ?_
            · intro q hq
              simp only [List.mem_cons, List.not_mem_nil, or_false] at hq
              subst hq
              rfl
            intro f w8 hf hgr hrd
            have hv2 := (hf 2 (by decide)).2 6 (by decide)
            obtain ⟨most, hv3, m1, m2⟩ := (hf 3 (by decide)).1
            obtain ⟨pause, hv4, u1, u2⟩ := (hf 54 (by decide)).1
            have m1 : 0 ≤ most := m1
            have m2 : most ≤ 4 := m2
            have u1 : 0 ≤ pause := u1
            have u2 : pause ≤ 20 := u2
            have hv2 : f 2 = .slice (some ⟨b', 0, none⟩) xs.length cap' := hv2
            clear hf hrd
            have HG8 := Lib.hid (grownBy_tr HG4.out hgr)
            have HO8 := Lib.hid (HO4.out.kept hgr (.inr (by simp [Value.ownBlock]; omega)))
            simp only [List.drop_succ_cons, List.drop_zero, putL, Act.put, List.setIfInBounds_toArray, List.set_cons_succ, List.set_cons_zero, hv2, hv3, hv4]
            clear hv2 hv3 hv4 hgr
            go_wp2_with fail
            refine bodyPost_ret (v := .tuple #[.slice (some ⟨b', 0, none⟩) xs.length cap', .int .i64 most, .int .i64 pause]) (by simp [results, Try.results22, go_sem]) rfl ?_
            exact ⟨b', cap', xs, most, pause, rfl, by omega, HX.out, m1, m2, u1, u2, HO8.out.mono (by omega), HB.out.trans (gb_below HG8.out (by omega) (by omega))⟩
        · go_wp2_with (at_builtin; refine wpList_append_lies _ rfl (.tmp 28) (.tmp 34) 23 rfl B0 3 i0 (.int .i64 0) 1 8 Try.underlying23 hi hz0 hz1 hz2 rfl (by decide) _ _ _ rfl (HO5.out.alloc _) _ 1 1 [.int .i64 (100001 : Int)] rfl rfl (news_one _ _ _) (one_cell (100001 : Int)) (by decide) ?c1 ?c2 ?c3 _ rfl ?c4)
          case c1 => unfold maxLen; omega
          case c2 => omega
          case c3 => simp; omega
          case c4 =>
            intro b' cap' w6 hown hgrow hat hlt6
            have HR4 := Lib.hid ((HR5.out.keep (grownBy_alloc _ _ _)).far (b := b) hgrow (by omega) (by omega))
            have HG4 := Lib.hid (gb_own (b := b) (gb_alloc HG5.out _) hgrow (by omega))
            have HO4 := Lib.hid hown
            have HX6 := Lib.hid (in_snoc (k := (100001 : Int)) HX.out (by omega) (by omega))
            have hl6 : (xs ++ [((100001 : Int) : Int)]).length = xs.length + 1 := by simp
            rw [show xs.map (Value.int .i64) ++ [Value.int .i64 (100001 : Int)] = (xs ++ [((100001 : Int) : Int)]).map (Value.int .i64) from by simp, ← hl6] at HO4
            rw [← hl6]
            have hl7 : (xs ++ [((100001 : Int) : Int)]).length ≤ 14 := by omega
            obtain ⟨hbl', _⟩ := HO4.out.lt b' rfl
            clear hown hgrow hat HR5 HG5 HO5 B5 e0 e1 HX HO3 HR3 HG3 hl6 hj hq hbl
            generalize xs ++ [((100001 : Int) : Int)] = xs at *
            have HX := HX6
            clear HX6
            generalize q2 + 1 = q2 at *
            go_wp2_with fail
            refine region_checked_id (D := w.heap.size) _ 0 false 21 55 g q2 [(5, .rd)] [(5, .rd), (36, .any), (37, .rd), (38, .int 0 3), (39, .int 1 4), (40, .sl [(1, 4), (0, 0)]), (41, .rd), (42, .int 0 8), (43, .int 0 1), (44, .pt 0 4), (45, .int 0 4), (46, .rd), (47, .int 0 19), (48, .int 1 20), (49, .sl [(1, 20), (0, 0)]), (50, .rd), (51, .int 0 8), (52, .int 0 1), (53, .pt 0 20), (54, .int 0 20), (2, .any), (3, .int 0 4)] [36, 37, 38, 39, 40, 41, 42, 43, 44, 45, 46, 47, 48, 49, 50, 51, 52, 53, 54, 2, 3] [(36, 6), (2, 6)] rfl (by kernel_rfl) (by kernel_rfl) (fun h => by cases h) ?_ HR4.out (by omega) ?_
            · intro q hq
              simp only [List.mem_cons, List.not_mem_nil, or_false] at hq
              subst hq
              rfl
            intro f w8 hf hgr hrd
            have hv2 := (hf 2 (by decide)).2 6 (by decide)
            obtain ⟨most, hv3, m1, m2⟩ := (hf 3 (by decide)).1
            obtain ⟨pause, hv4, u1, u2⟩ := (hf 54 (by decide)).1
            have m1 : 0 ≤ most := m1
            have m2 : most ≤ 4 := m2
            have u1 : 0 ≤ pause := u1
            have u2 : pause ≤ 20 := u2
            have hv2 : f 2 = .slice (some ⟨b', 0, none⟩) xs.length cap' := hv2
            clear hf hrd
            have HG8 := Lib.hid (grownBy_tr HG4.out hgr)
            have HO8 := Lib.hid (HO4.out.kept hgr (.inr (by simp [Value.ownBlock]; omega)))
            simp only [List.drop_succ_cons, List.drop_zero, putL, Act.put, List.setIfInBounds_toArray, List.set_cons_succ, List.set_cons_zero, hv2, hv3, hv4]
            clear hv2 hv3 hv4 hgr
            go_wp2_with fail
            refine bodyPost_ret (v := .tuple #[.slice (some ⟨b', 0, none⟩) xs.length cap', .int .i64 most, .int .i64 pause]) (by simp [results, Try.results22, go_sem]) rfl ?_
            exact ⟨b', cap', xs, most, pause, rfl, by omega, HX.out, m1, m2, u1, u2, HO8.out.mono (by omega), HB.out.trans (gb_below HG8.out (by omega) (by omega))⟩
end Go.Proofs.Ytdpmlkigmadajaa
