/- The draw of a histogram. No condition. -/
import Derived.Test.YtdgfngcfodccmaaApp
namespace Go.Proofs.Ytdgfngcfodccmaa
open Go.RowKit
variable {D : Nat}
/-- A list of 12 or 13 numbers is drawn; besides the reader nothing that was there has turned. -/
def RetH (D : Nat) (w : World) (g p : Nat) (e : Ending) (w' : World) : Prop :=
  ∃ (b off : Nat) (xs : List Int), e = .returned (.slice (some ⟨b, off, none⟩) xs.length xs.length) ∧ (xs.length = 12 ∨ xs.length = 13) ∧ (∀ x ∈ xs, -1 ≤ x ∧ x ≤ 1000001) ∧
    Ints w' (some ⟨b, off, none⟩) xs ∧ w.heap.size ≤ b ∧ (∃ p', p' ≤ p + 40 ∧ Rd D w' g p') ∧ w.grownBy w' (some g)
theorem ownsRow.bare {w : World} {base g n cap : Nat} {xs : List Int} (h : w.ownsRow base 3 1 (.slice (some ⟨g, 0, none⟩) n cap) n (xs.map (Value.int .i64))) (k : Nat) (hk : k < xs.length) : w.cell? ⟨g, k, none⟩ = some (.int .i64 (xs.getD k 0)) := by
  have hl : xs.length = n := by have := h.1; simpa using this
  rw [h.cellAt k (by omega), List.getElem?_map, getD_of_lt hk]; rfl
theorem set_in {xs : List Int} {lo hi v : Int} {k : Nat} (h : ∀ x ∈ xs, lo ≤ x ∧ x ≤ hi) (h1 : lo ≤ v) (h2 : v ≤ hi) : ∀ x ∈ xs.set k v, lo ≤ x ∧ x ≤ hi := by
  intro x hx
  rcases List.mem_or_eq_of_mem_set hx with h' | rfl
  · exact h x h'
  · exact ⟨h1, h2⟩
theorem map_set_int (xs : List Int) (k : Nat) (v : Int) : (xs.map (Value.int .i64)).set k (.int .i64 v) = (xs.set k v).map (Value.int .i64) := by rw [List.map_set]
set_option maxHeartbeats 2000000 in
theorem s_l20Hist (g p : Nat) (n : Int) (w : World) (h : Rd D w g p) (hp : p ≤ 9000) (n1 : 0 ≤ n) (n2 : n ≤ 1000) :
    Calls Try.prog 42 #[.pointer (some ⟨g, 0, none⟩), .int .i64 n] w (RetH D w g p) := by
  obtain ⟨i0, hi, hz0, hz1, hz2⟩ := info_parts infoInt8
  have hglt : g < w.heap.size := h.lt
  have hDg : D ≤ g := h.1
  have HR := Lib.hid h
  clear h
  go_enter Try.func42, Try.ntmps42
  go_wp2_with (at_make; refine wpList_make_full _ rfl _ _ 32 rfl w.heap.size 3 i0 (.int .i64 0) 1 Try.underlying32 hi hz0 hz1 .i64 .i64 _ _ 13 rfl rfl rfl rfl ?c1 ?c2 ?c3 ?c4)
  case c1 => rw [hz2]; omega
  case c2 => unfold maxLen; omega
  case c3 => exact Nat.le_refl _
  case c4 =>
    intro w0 hown hgr
    have HO := Lib.hid hown
    have HG := Lib.hid hgr
    have HR0 := Lib.hid (HR.out.keep hgr)
    clear hown hgr
    go_wp2_with fail
    refine (c_pick g p 6 _ HR0.out (by omega) (by omega) (by omega)).mono ?_
    rintro e w1 ⟨x, rfl, x0, x1, _, hr1, hg1⟩
    have x1 := x1 (by omega)
    obtain ⟨j0, rfl⟩ := Int.eq_ofNat_of_zero_le x0
    have HR1 := Lib.hid hr1
    have HG1 := Lib.hid (gb_none' HG.out hg1)
    have HO1 := Lib.hid (HO.out.kept hg1 (.inr (by simp [Value.ownBlock]; omega)))
    clear hr1 hg1
    go_wp2
    go_loopw [6] (fun i wr => ∃ (j q : Nat) (C : List Int), i = .int .i64 j ∧ j ≤ 5 ∧ q ≤ p + 1 + 4 * (5 - j) ∧ C.length = 13 ∧ (∀ x ∈ C, -1 ≤ x ∧ x ≤ 1000001) ∧
      wr.ownsRow w.heap.size 3 1 (.slice (some ⟨w.heap.size, 0, none⟩) 13 13) 13 (C.map (Value.int .i64)) ∧ Rd D wr g q ∧ w.grownBy wr (some g)) (fun i _ => (intOf i).toNat)
    case atStart =>
      refine ⟨j0, p + 1, List.replicate 13 0, rfl, by omega, by omega, rfl, fun x hx => ?_, ?_, HR1.out, HG1.out⟩
      · have := List.eq_of_mem_replicate hx; omega
      · have e : (madeCells #[Value.int .i64 0] 13).toList = (List.replicate 13 (0 : Int)).map (Value.int .i64) := by
          first | rfl | kernel_rfl
        rw [← e]
        exact HO1.out
    case round =>
      obtain ⟨j, q, C, rfl, hj, hq, hC, hx, hown, hr2, hgr⟩ := hrel
      have HX := Lib.hid hx
      have HO2 := Lib.hid hown
      have HR2 := Lib.hid hr2
      have HG2 := Lib.hid hgr
      clear hown hgr hr2 hx HO1 HG1 HR1 HO HG HR0
      by_cases hlt : 0 < j
      · go_wp2_with fail
        refine (c_pick g q 13 _ HR2.out (by omega) (by omega) (by omega)).mono ?_
        rintro e w3 ⟨x, rfl, y0, y1, _, hr3, hg3⟩
        have y1 := y1 (by omega)
        obtain ⟨k, rfl⟩ := Int.eq_ofNat_of_zero_le y0
        have HR3 := Lib.hid hr3
        have HG3 := Lib.hid (grownBy_tr HG2.out hg3)
        have HO3 := Lib.hid (HO2.out.kept hg3 (.inr (by simp [Value.ownBlock]; omega)))
        clear hr3 hg3
        go_wp2_with fail
        refine (c_pick g (q + 1) 20 _ HR3.out (by omega) (by omega) (by omega)).mono ?_
        rintro e w4 ⟨v, rfl, v0, v1, _, hr4, hg4⟩
        have v1 := v1 (by omega)
        have HR4 := Lib.hid hr4
        have HG4 := Lib.hid (grownBy_tr HG3.out hg4)
        have HO4 := Lib.hid (HO3.out.kept hg4 (.inr (by simp [Value.ownBlock]; omega)))
        have hlt4 : g < w4.heap.size := hr4.lt
        clear hr4 hg4
        go_wp2_with fail
        refine (c_pick g (q + 2) 14 _ (HR4.out.keep (grownBy_alloc _ _ _)) (by omega) (by omega) (by omega)).mono ?_
        rintro e w5 ⟨t, rfl, t0, t1, _, hr5, hg5⟩
        have t1 := t1 (by omega)
        have HR5 := Lib.hid hr5
        have HG5 := Lib.hid (grownBy_tr (gb_alloc HG4.out (.cells #[.int .i64 v, .int .i64 1000000] 3)) hg5)
        have HO5 := Lib.hid ((HO4.out.alloc (.cells #[.int .i64 v, .int .i64 1000000] 3)).kept hg5 (.inr (by simp [Value.ownBlock]; omega)))
        have B5 := Lib.hid ((Box.new w4 3 [.int .i64 v, .int .i64 1000000]).by hg5 (by omega))
        clear hr5 hg5
        have hc2 := ownsRow.bare HO5.out k (by omega)
        have hc3 := HO5.out.frozenAt k
        have u0 := B5.out.cell 0
        have u1 := B5.out.cell 1
        simp only [List.getElem?_cons_zero, List.getElem?_cons_succ] at u0 u1
        have hs0 := HO5.out.stored k (.int .i64 v)
        have hs1 := HO5.out.stored k (.int .i64 1000000)
        rw [map_set_int] at hs0 hs1
        have HS0 := Lib.hid hs0
        have HS1 := Lib.hid hs1
        clear hs0 hs1
        have hbe : w.heap.size ≠ g := by omega
        have hk : (k : Int) < 13 := by omega
        by_cases ht : t < 13
        · have e1 : t / 13 = 0 := by omega
          have e2 : t.tdiv 13 = 0 := by rw [Int.tdiv_eq_ediv_of_nonneg t0, e1]
          go_wp2
          go_roundw
          case rel => exact ⟨j - 1, q + 3, C.set k v, by go_num, by omega, by omega, by simp [hC], set_in HX.out (by omega) (by omega), HS0.out.1, HR5.out.other (by omega) hbe _ _, gb_own HG5.out HS0.out.2 (Nat.le_refl _)⟩
          case measure => simp [intOf]; omega
        · obtain rfl : t = 13 := by omega
          go_wp2
          go_roundw
          case rel => exact ⟨j - 1, q + 3, C.set k 1000000, by go_num, by omega, by omega, by simp [hC], set_in HX.out (by omega) (by omega), HS1.out.1, HR5.out.other (by omega) hbe _ _, gb_own HG5.out HS1.out.2 (Nat.le_refl _)⟩
          case measure => simp [intOf]; omega
      · go_wp2_with fail
        refine (c_odd g q n _ HR2.out (by omega) (by omega) (by omega)).mono ?_
        rintro e w3 ⟨od, rfl, ⟨p3, hp3, hr3⟩, hg3⟩
        have HR3 := Lib.hid hr3
        have HG3 := Lib.hid (grownBy_tr HG2.out hg3)
        have HO3 := Lib.hid (HO2.out.kept hg3 (.inr (by simp [Value.ownBlock]; omega)))
        clear hr3 hg3
        cases od
        · go_wp2
          go_ret
          rw [← hC]
          refine ⟨w.heap.size, 0, C, rfl, .inr hC, HX.out, ?_, Nat.le_refl _, ⟨p3, by omega, HR3.out⟩, HG3.out⟩
          exact ownsRow.ints HO3.out
        · go_wp2_with fail
          refine (c_pick g p3 2 _ HR3.out (by omega) (by omega) (by omega)).mono ?_
          rintro e w4 ⟨t, rfl, t0, t1, _, hr4, hg4⟩
          have t1 := t1 (by omega)
          have HR4 := Lib.hid hr4
          have HG4 := Lib.hid (grownBy_tr HG3.out hg4)
          have HO4 := Lib.hid (HO3.out.kept hg4 (.inr (by simp [Value.ownBlock]; omega)))
          clear hr4 hg4
          by_cases ht : t = 0
          · subst ht
            have hlt4 : g < w4.heap.size := HR4.out.lt
            go_wp2_with fail
            refine (c_pick g (p3 + 1) 2 _ (HR4.out.keep (grownBy_alloc _ _ _)) (by omega) (by omega) (by omega)).mono ?_
            rintro e w5 ⟨v, rfl, v0, v1, _, hr5, hg5⟩
            have v1 := v1 (by omega)
            have HR5 := Lib.hid hr5
            have HG5 := Lib.hid (grownBy_tr (gb_alloc HG4.out (.cells #[.int .i64 (-1), .int .i64 1000001] 3)) hg5)
            have HO5 := Lib.hid ((HO4.out.alloc (.cells #[.int .i64 (-1), .int .i64 1000001] 3)).kept hg5 (.inr (by simp [Value.ownBlock]; omega)))
            have B5 := Lib.hid ((Box.new w4 3 [.int .i64 (-1), .int .i64 1000001]).by hg5 (by omega))
            clear hr5 hg5
            have hc2 := ownsRow.bare HO5.out 3 (by omega)
            have hc3 := HO5.out.frozenAt 3
            have u0 := B5.out.cell 0
            have u1 := B5.out.cell 1
            simp only [List.getElem?_cons_zero, List.getElem?_cons_succ] at u0 u1
            have hs0 := HO5.out.stored 3 (.int .i64 (-1))
            have hs1 := HO5.out.stored 3 (.int .i64 1000001)
            rw [map_set_int] at hs0 hs1
            have HS0 := Lib.hid hs0
            have HS1 := Lib.hid hs1
            clear hs0 hs1
            have hbe : w.heap.size ≠ g := by omega
            have hv : v = 0 ∨ v = 1 := by omega
            clear v0 v1
            rcases hv with rfl | rfl
            · go_wp2
              go_ret
              have hl : (C.set 3 (-1)).length = 13 := by simp [hC]
              refine ⟨w.heap.size, 0, C.set 3 (-1), by rw [hl]; rfl, .inr hl, set_in HX.out (by omega) (by omega), ownsRow.ints HS0.out.1, Nat.le_refl _, ⟨p3 + 1 + 1, by omega, HR5.out.other (by omega) hbe _ _⟩, gb_own HG5.out HS0.out.2 (Nat.le_refl _)⟩
            · go_wp2
              go_ret
              have hl : (C.set 3 1000001).length = 13 := by simp [hC]
              refine ⟨w.heap.size, 0, C.set 3 1000001, by rw [hl]; rfl, .inr hl, set_in HX.out (by omega) (by omega), ownsRow.ints HS1.out.1, Nat.le_refl _, ⟨p3 + 1 + 1, by omega, HR5.out.other (by omega) hbe _ _⟩, gb_own HG5.out HS1.out.2 (Nat.le_refl _)⟩
          · obtain rfl : t = 1 := by omega
            go_wp2
            go_ret
            have hl : (C.drop 1).length = 12 := by simp [hC]
            refine ⟨w.heap.size, 1, C.drop 1, by rw [hl]; rfl, .inl hl, fun x hx => HX.out x (List.mem_of_mem_drop hx), ?_, Nat.le_refl _, ⟨p3 + 1, by omega, HR4.out⟩, HG4.out⟩
            refine .inr ⟨w.heap.size, 1, rfl, (HO4.out.lt _ rfl).2, fun i hi => ?_⟩
            have h5 := ownsRow.bare HO4.out (1 + i) (by rw [hl] at hi; omega)
            rw [h5]
            simp [List.getD_eq_getElem?_getD, Nat.add_comm]
end Go.Proofs.Ytdgfngcfodccmaa
