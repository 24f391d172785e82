/- Contracts of the verifier's small functions over lists of Event, read as flat lists of ints: to, eq. No condition but the bounds that each states. (Printed by wip/mkz.py.) -/
import Derived.Test.YtdkdfehlmphikaaMB
import Derived.Test.YtdkdfehlmphikaaMG
namespace Go.Proofs.Ytdkdfehlmphikaa
open Go.RowKit
set_option maxHeartbeats 4000000 in
theorem c_toEvent (x0 x1 x2 x3 x4 x5 : Int) (w : World) : Calls Try.prog 77 #[.agg #[.int .i64 x0, .int .i64 x1, .int .i64 x2, .int .i64 x3, .int .i64 x4, .int .i64 x5]] w fun e w' => e = .returned (.agg #[.int .i64 x0, .int .i64 x1, .int .i64 x2, .int .i64 x3, .int .i64 x4, .int .i64 x5]) ∧ Below w.heap.size w w' := by
  obtain ⟨W, hW, gW, sW, bx, by1, bz⟩ := head3 w 106 39 39 [.int .i64 x0, .int .i64 x1, .int .i64 x2, .int .i64 x3, .int .i64 x4, .int .i64 x5] [.int .i64 0, .int .i64 0, .int .i64 0, .int .i64 0, .int .i64 0, .int .i64 0] [.int .i64 x0, .int .i64 0, .int .i64 0, .int .i64 0, .int .i64 0, .int .i64 0]
  have HW := Lib.hid hW
  have HG := Lib.hid gW
  have HS := Lib.hid sW
  have HX := Lib.hid bx
  have HY := Lib.hid by1
  have HZ := Lib.hid bz
  obtain ⟨cx0, cx1, cx2, cx3, cx4, cx5, fx⟩ := bx.six
  clear hW gW sW by1 bz bx
  go_enter Try.func77, Try.ntmps77
  go_wp2_with fail
  rw [← HW.out]
  (with_reducible refine (c_toFlow x1 x2 x3 x4 x5 _).mono ?_)
  rintro e w6 ⟨rfl, hb6⟩
  have HB := Lib.hid hb6
  have hz6 := hb6.size
  clear hb6 fx cx0 cx1 cx2 cx3 cx4 cx5
  have hs6 := HS.out
  have HX6 := Lib.hid (HX.out.keep HB.out)
  have HY6 := Lib.hid (HY.out.keep HB.out)
  have HZ6 := Lib.hid (HZ.out.keep HB.out)
  obtain ⟨cx0, cx1, cx2, cx3, cx4, cx5, fx⟩ := HX6.out.six
  obtain ⟨cy0, cy1, cy2, cy3, cy4, cy5, fy⟩ := HY6.out.six
  obtain ⟨cz0, cz1, cz2, cz3, cz4, cz5, fz⟩ := HZ6.out.six
  go_upto_region 4 with fail
  obtain ⟨w7, hw7⟩ : ∃ W7, W7 = (((((w6.setCell ⟨w.heap.size + 2, 1, none⟩ (.int .i64 x1)).setCell ⟨w.heap.size + 2, 2, none⟩ (.int .i64 x2)).setCell ⟨w.heap.size + 2, 3, none⟩ (.int .i64 x3)).setCell ⟨w.heap.size + 2, 4, none⟩ (.int .i64 x4)).setCell ⟨w.heap.size + 2, 5, none⟩ (.int .i64 x5)) := ⟨_, rfl⟩
  have bx7 : Box w7 w.heap.size 106 [.int .i64 x0, .int .i64 x1, .int .i64 x2, .int .i64 x3, .int .i64 x4, .int .i64 x5] := by rw [hw7]; exact (((((HX6.out.other (by simp) _).other (by simp) _).other (by simp) _).other (by simp) _).other (by simp) _)
  have by7 : Box w7 (w.heap.size + 1) 39 [.int .i64 0, .int .i64 0, .int .i64 0, .int .i64 0, .int .i64 0, .int .i64 0] := by rw [hw7]; exact (((((HY6.out.other (by simp) _).other (by simp) _).other (by simp) _).other (by simp) _).other (by simp) _)
  have bz7 : Box w7 (w.heap.size + 2) 39 [.int .i64 x0, .int .i64 x1, .int .i64 x2, .int .i64 x3, .int .i64 x4, .int .i64 x5] := by rw [hw7]; exact (((((HZ6.out.set 1 _).set 2 _).set 3 _).set 4 _).set 5 _)
  have bl7 : Below w.heap.size w w7 := by
    have h3 := Below.step HG.out HB.out HG.out.size
    rw [hw7]; go_grown
  have HW7 := Lib.hid hw7
  have HB7 := Lib.hid bl7
  have hz7 := bz7.lt
  clear fx fy fz cx0 cx1 cx2 cx3 cx4 cx5 cy0 cy1 cy2 cy3 cy4 cy5 cz0 cz1 cz2 cz3 cz4 cz5 hw7 bl7
  obtain ⟨cx0, cx1, cx2, cx3, cx4, cx5, fx⟩ := bx7.six
  obtain ⟨cy0, cy1, cy2, cy3, cy4, cy5, fy⟩ := by7.six
  obtain ⟨cz0, cz1, cz2, cz3, cz4, cz5, fz⟩ := bz7.six
  clear bx7 by7 bz7
  rw [← HW7.out]
  go_wp2
  refine bodyPost_ret (v := .agg #[.int .i64 x0, .int .i64 x1, .int .i64 x2, .int .i64 x3, .int .i64 x4, .int .i64 x5]) (by simp [results, Try.results77, go_sem, cy0, cy1, cy2, cy3, cy4, cy5]) rfl ?_
  have h1 := HB7.out
  exact ⟨rfl, by go_grown⟩
set_option maxHeartbeats 1000000 in
theorem c_eqEvent (x0 x1 x2 x3 x4 x5 : Int) (w : World) : Calls Try.prog 78 #[.agg #[.int .i64 x0, .int .i64 x1, .int .i64 x2, .int .i64 x3, .int .i64 x4, .int .i64 x5], .agg #[.int .i64 x0, .int .i64 x1, .int .i64 x2, .int .i64 x3, .int .i64 x4, .int .i64 x5]] w fun e w' => e = .returned (.bool true) ∧ Below w.heap.size w w' := by
  obtain ⟨W, hW, gW, sW, bx, by1⟩ := headB w 39 39 [.int .i64 x0, .int .i64 x1, .int .i64 x2, .int .i64 x3, .int .i64 x4, .int .i64 x5] [.int .i64 x0, .int .i64 x1, .int .i64 x2, .int .i64 x3, .int .i64 x4, .int .i64 x5]
  have HW := Lib.hid hW
  have HG := Lib.hid gW
  have HS := Lib.hid sW
  have HX := Lib.hid bx
  have HY := Lib.hid by1
  clear hW gW sW bx by1
  go_enter Try.func78, Try.ntmps78
  go_wp2_with fail
  rw [← HW.out]
  (with_reducible refine (c_eqFlow x1 x2 x3 x4 x5 _).mono ?_)
  rintro e w6 ⟨rfl, hb6⟩
  have HB := Lib.hid hb6
  clear hb6
  obtain ⟨cx0, cx1, cx2, cx3, cx4, cx5, fx⟩ := (HX.out.keep HB.out).six
  obtain ⟨cy0, cy1, cy2, cy3, cy4, cy5, fy⟩ := (HY.out.keep HB.out).six
  go_wp2
  go_ret
  have h1 := HG.out
  exact ⟨rfl, Below.step h1 HB.out h1.size⟩
theorem zeroEvent : (Try.prog.info? 39).map (fun i => (i.zero, i.size, i.bytes)) = some (some (.agg #[.int .i64 0, .int .i64 0, .int .i64 0, .int .i64 0, .int .i64 0, .int .i64 0]), 6, 48) := by kernel_rfl
theorem elemEvent : Elem 24 39 6 48 := elem_mk (.agg #[.int .i64 0, .int .i64 0, .int .i64 0, .int .i64 0, .int .i64 0, .int .i64 0]) Try.underlying24 zeroEvent rfl (by decide) (by decide)
theorem zEvent {xs : List Int} {n k : Nat} (hl : xs.length = n * 6) (hk : k < n) {w : World} {a : Option Addr} (h : Ints w a xs) :
    ∃ b off, a = some ⟨b, off, none⟩ ∧ b < w.heap.size ∧ (w.cell? ⟨b, off + k * 6, none⟩ = some (.int .i64 (xs.getD (k * 6) 0)) ∧ w.cell? ⟨b, off + k * 6 + 1, none⟩ = some (.int .i64 (xs.getD (k * 6 + 1) 0)) ∧ w.cell? ⟨b, off + k * 6 + 2, none⟩ = some (.int .i64 (xs.getD (k * 6 + 2) 0)) ∧ w.cell? ⟨b, off + k * 6 + 3, none⟩ = some (.int .i64 (xs.getD (k * 6 + 3) 0)) ∧ w.cell? ⟨b, off + k * 6 + 4, none⟩ = some (.int .i64 (xs.getD (k * 6 + 4) 0)) ∧ w.cell? ⟨b, off + k * 6 + 5, none⟩ = some (.int .i64 (xs.getD (k * 6 + 5) 0))) := by
  rcases h with h | ⟨b, off, ha, hb, hc⟩
  · rw [h] at hl; simp at hl; omega
  · refine ⟨b, off, ha, hb, ?_, ?_, ?_, ?_, ?_, ?_⟩
    · have := hc (k * 6) (by omega); exact this
    · have := hc (k * 6 + 1) (by omega); rw [← Nat.add_assoc] at this; exact this
    · have := hc (k * 6 + 2) (by omega); rw [← Nat.add_assoc] at this; exact this
    · have := hc (k * 6 + 3) (by omega); rw [← Nat.add_assoc] at this; exact this
    · have := hc (k * 6 + 4) (by omega); rw [← Nat.add_assoc] at this; exact this
    · have := hc (k * 6 + 5) (by omega); rw [← Nat.add_assoc] at this; exact this
set_option maxHeartbeats 1000000 in
theorem c_eqEventS (a b : Option Addr) (n ca cb : Nat) (xs : List Int) (w : World) (hxs : xs.length = n * 6) (hn : n ≤ 1048576) (ha : Ints w a xs) (hb : Ints w b xs) :
    Calls Try.prog 36 #[.slice a n ca, .slice b n cb] w fun e w' => e = .returned (.bool true) ∧ Below w.heap.size w w' := by
  have HX := Lib.hid hxs
  have HA := Lib.hid ha
  have HB := Lib.hid hb
  clear hxs ha hb
  go_enter Try.func36, Try.ntmps36
  go_wp2
  go_loopw [5] (fun i wr => ∃ (k : Nat), k ≤ n ∧ i = .int .i64 k ∧ Below w.heap.size w wr) (fun i _ => n - (intOf i).toNat)
  case atStart => exact ⟨0, Nat.zero_le _, rfl, Below.refl _ _⟩
  case round =>
    obtain ⟨k, hk, rfl, hG⟩ := hrel
    have HG := Lib.hid hG
    have hz := hG.size
    clear hG
    by_cases hlt : k < n
    · obtain ⟨b1, off1, rfl, _, c0, c1, c2, c3, c4, c5⟩ := zEvent HX.out hlt (HA.out.below HG.out)
      obtain ⟨b2, off2, rfl, _, d0, d1, d2, d3, d4, d5⟩ := zEvent HX.out hlt (HB.out.below HG.out)
      generalize xs.getD (k * 6) 0 = x0 at *
      generalize xs.getD (k * 6 + 1) 0 = x1 at *
      generalize xs.getD (k * 6 + 2) 0 = x2 at *
      generalize xs.getD (k * 6 + 3) 0 = x3 at *
      generalize xs.getD (k * 6 + 4) 0 = x4 at *
      generalize xs.getD (k * 6 + 5) 0 = x5 at *
      have e0 := aft_cell c0
      have e1 := aft_cell c1
      have e2 := aft_cell c2
      have e3 := aft_cell c3
      have e4 := aft_cell c4
      have e5 := aft_cell c5
      have f0 := aft_cell d0
      have f1 := aft_cell d1
      have f2 := aft_cell d2
      have f3 := aft_cell d3
      have f4 := aft_cell d4
      have f5 := aft_cell d5
      clear c0 c1 c2 c3 c4 c5 d0 d1 d2 d3 d4 d5
      go_wp2
      refine wp_region_quietC (by kernel_rfl) (by kernel_rfl) ?_
      repeat (go_big_quiet_step ((go_at_call 78; exact aft_call (c_eqEvent _ _ _ _ _ _ _))))
      refine wpQuiet_nil ?_
      rintro _ ⟨⟨w6, hb6⟩, rfl⟩
      have HG6 := Lib.hid (Below.step HG.out hb6 hz)
      clear hb6 e0 f0 e1 f1 e2 f2 e3 f3 e4 f4 e5 f5
      go_wp2
      go_roundw
      case rel => exact ⟨k + 1, by omega, by go_num, HG6.out⟩
      case measure => simp [intOf]; omega
    · go_wp2
      go_ret
      exact ⟨rfl, HG.out⟩
set_option maxHeartbeats 2000000 in
theorem c_toEventS (a : Option Addr) (n cap : Nat) (xs : List Int) (w : World) (hxs : xs.length = n * 6) (hn : n ≤ 1048576) (h : Ints w a xs) :
    Calls Try.prog 34 #[.slice a n cap] w (RetRow w 39 6 n (xs.map (Value.int .i64))) := by
  obtain ⟨i0, hi, hz0, hz1, hz2⟩ := info_parts zeroEvent
  have HX := Lib.hid hxs
  have HI := Lib.hid h
  clear h hxs
  go_enter Try.func34, Try.ntmps34
  go_wp2_with (at_make; refine wpList_make_full _ rfl _ _ 24 rfl w.heap.size 39 i0 (.agg #[.int .i64 0, .int .i64 0, .int .i64 0, .int .i64 0, .int .i64 0, .int .i64 0]) 6 Try.underlying24 hi hz0 hz1 .i64 .i64 _ _ n rfl rfl rfl rfl ?c1 ?c2 ?c3 ?c4)
  case c1 => rw [hz2]; omega
  case c2 => unfold maxLen; omega
  case c3 => exact Nat.le_refl _
  case c4 =>
    intro w1 hown hgr
    have HO := Lib.hid hown
    have HG := Lib.hid hgr
    clear hown hgr
    go_wp2
    go_loopw [4] (fun i wr => ∃ (k : Nat) (C : List Value), k ≤ n ∧ i = .int .i64 k ∧ C.length = n * 6 ∧ (∀ t, t < k * 6 → C[t]? = some (.int .i64 (xs.getD t 0))) ∧ wr.ownsRow w.heap.size 39 6 (.slice (some ⟨w.heap.size, 0, none⟩) n n) n C ∧ Below w.heap.size w wr) (fun i _ => n - (intOf i).toNat)
    case atStart => exact ⟨0, _, Nat.zero_le _, rfl, row_len HO.out, fun j hj => by omega, HO.out, grown_below HG.out⟩
    case round =>
      obtain ⟨k, C, hk, rfl, hC, hCk, hown, hgr⟩ := hrel
      have HO := Lib.hid hown
      have HG := Lib.hid hgr
      have HK := Lib.hid hCk
      have HC := Lib.hid hC
      have hzz := hgr.size
      clear hown hgr hCk hC
      by_cases hlt : k < n
      · obtain ⟨b, off, rfl, hb, c0, c1, c2, c3, c4, c5⟩ := zEvent HX.out hlt (HI.out.below HG.out)
        generalize g0 : xs.getD (k * 6) 0 = x0 at *
        generalize g1 : xs.getD (k * 6 + 1) 0 = x1 at *
        generalize g2 : xs.getD (k * 6 + 2) 0 = x2 at *
        generalize g3 : xs.getD (k * 6 + 3) 0 = x3 at *
        generalize g4 : xs.getD (k * 6 + 4) 0 = x4 at *
        generalize g5 : xs.getD (k * 6 + 5) 0 = x5 at *
        have HE := Lib.hid ((And.intro g0 (And.intro g1 (And.intro g2 (And.intro g3 (And.intro g4 g5))))))
        clear g0 g1 g2 g3 g4 g5
        go_wp2_with fail
        refine (c_toEvent x0 x1 x2 x3 x4 x5 _).mono ?_; rintro e w2 ⟨rfl, b2⟩
        have HO2 := Lib.hid (row_below HO.out b2)
        have HG2 := Lib.hid (Below.step HG.out b2 hzz)
        clear b2 c0 c1 c2 c3 c4 c5
        have hl3 : C.length = n * 6 := HC.out
        have e0 := HO2.out.cellAt (k * 6) (by omega)
        have e1 := HO2.out.cellAt (k * 6 + 1) (by omega)
        have e2 := HO2.out.cellAt (k * 6 + 2) (by omega)
        have e3 := HO2.out.cellAt (k * 6 + 3) (by omega)
        have e4 := HO2.out.cellAt (k * 6 + 4) (by omega)
        have e5 := HO2.out.cellAt (k * 6 + 5) (by omega)
        rw [List.getElem?_eq_getElem (by omega)] at e0 e1 e2 e3 e4 e5
        have f0 := HO2.out.frozenAt (k * 6)
        have f1 := HO2.out.frozenAt (k * 6 + 1)
        have f2 := HO2.out.frozenAt (k * 6 + 2)
        have f3 := HO2.out.frozenAt (k * 6 + 3)
        have f4 := HO2.out.frozenAt (k * 6 + 4)
        have f5 := HO2.out.frozenAt (k * 6 + 5)
        have HS3 := Lib.hid (((((((HO2.out.stored (k * 6) (.int .i64 x0)).1.stored (k * 6 + 1) (.int .i64 x1)).1.stored (k * 6 + 2) (.int .i64 x2)).1.stored (k * 6 + 3) (.int .i64 x3)).1.stored (k * 6 + 4) (.int .i64 x4)).1.stored (k * 6 + 5) (.int .i64 x5)).1)
        generalize C[k * 6]'(by omega) = v0 at e0
        generalize C[k * 6 + 1]'(by omega) = v1 at e1
        generalize C[k * 6 + 2]'(by omega) = v2 at e2
        generalize C[k * 6 + 3]'(by omega) = v3 at e3
        generalize C[k * 6 + 4]'(by omega) = v4 at e4
        generalize C[k * 6 + 5]'(by omega) = v5 at e5
        clear hl3
        go_wp2
        go_roundw
        case rel =>
          refine ⟨k + 1, ((((((C.set (k * 6) (.int .i64 x0)).set (k * 6 + 1) (.int .i64 x1)).set (k * 6 + 2) (.int .i64 x2)).set (k * 6 + 3) (.int .i64 x3)).set (k * 6 + 4) (.int .i64 x4)).set (k * 6 + 5) (.int .i64 x5)), by omega, by go_num, by simp [HC.out], fun t ht => ?_, HS3.out, ((((((HG2.out.setCell (by simp) _).setCell (by simp) _).setCell (by simp) _).setCell (by simp) _).setCell (by simp) _).setCell (by simp) _)⟩
          have hl3 := HC.out
          obtain ⟨q0, q1, q2, q3, q4, q5⟩ := HE.out
          by_cases t5 : t = k * 6 + 5
          · subst t5; rw [List.getElem?_set_self (by first | omega | (simp; omega)), q5]
          by_cases t4 : t = k * 6 + 4
          · subst t4; rw [List.getElem?_set_ne (by omega)]; rw [List.getElem?_set_self (by first | omega | (simp; omega)), q4]
          by_cases t3 : t = k * 6 + 3
          · subst t3; rw [List.getElem?_set_ne (by omega)]; rw [List.getElem?_set_ne (by omega)]; rw [List.getElem?_set_self (by first | omega | (simp; omega)), q3]
          by_cases t2 : t = k * 6 + 2
          · subst t2; rw [List.getElem?_set_ne (by omega)]; rw [List.getElem?_set_ne (by omega)]; rw [List.getElem?_set_ne (by omega)]; rw [List.getElem?_set_self (by first | omega | (simp; omega)), q2]
          by_cases t1 : t = k * 6 + 1
          · subst t1; rw [List.getElem?_set_ne (by omega)]; rw [List.getElem?_set_ne (by omega)]; rw [List.getElem?_set_ne (by omega)]; rw [List.getElem?_set_ne (by omega)]; rw [List.getElem?_set_self (by first | omega | (simp; omega)), q1]
          by_cases t0 : t = k * 6
          · subst t0; rw [List.getElem?_set_ne (by omega)]; rw [List.getElem?_set_ne (by omega)]; rw [List.getElem?_set_ne (by omega)]; rw [List.getElem?_set_ne (by omega)]; rw [List.getElem?_set_ne (by omega)]; rw [List.getElem?_set_self (by first | omega | (simp; omega)), q0]
          · rw [List.getElem?_set_ne (by omega)]; rw [List.getElem?_set_ne (by omega)]; rw [List.getElem?_set_ne (by omega)]; rw [List.getElem?_set_ne (by omega)]; rw [List.getElem?_set_ne (by omega)]; rw [List.getElem?_set_ne (by omega)]; exact HK.out t (by omega)
        case measure => simp [intOf]; omega
      · obtain rfl : k = n := by omega
        go_wp2
        go_ret
        have := HO.out
        rw [cells_eq (by rw [HC.out, HX.out]) (fun j hj => HK.out j (by rw [← HX.out]; exact hj))] at this
        exact ⟨_, _, rfl, this, below_grown HG.out⟩
end Go.Proofs.Ytdkdfehlmphikaa
