/- Contracts of the verifier's small functions over lists of Flow, read as flat lists of ints: to, eq. No condition but the bounds that each states. (Printed by wip/mkz.py.) -/
import Derived.Test.YtalalapjanckdaaFloE
import Derived.Test.YtalalapjanckdaaQuC
namespace Go.Proofs.Ytalalapjanckdaa
open Go.RowKit
theorem zeroFlow : (Try.prog.info? 27).map (fun i => (i.zero, i.size, i.bytes)) = some (some (.agg #[.int .i64 0, .int .i64 0, .int .i64 0, .int .i64 0, .int .i64 0]), 5, 40) := by kernel_rfl
theorem elemFlow : Elem 23 27 5 40 := elem_mk (.agg #[.int .i64 0, .int .i64 0, .int .i64 0, .int .i64 0, .int .i64 0]) Try.underlying23 zeroFlow rfl (by decide) (by decide)
theorem zFlow {xs : List Int} {n k : Nat} (hl : xs.length = n * 5) (hk : k < n) {w : World} {a : Option Addr} (h : Ints w a xs) :
    ∃ b off, a = some ⟨b, off, none⟩ ∧ b < w.heap.size ∧ (w.cell? ⟨b, off + k * 5, none⟩ = some (.int .i64 (xs.getD (k * 5) 0)) ∧ w.cell? ⟨b, off + k * 5 + 1, none⟩ = some (.int .i64 (xs.getD (k * 5 + 1) 0)) ∧ w.cell? ⟨b, off + k * 5 + 2, none⟩ = some (.int .i64 (xs.getD (k * 5 + 2) 0)) ∧ w.cell? ⟨b, off + k * 5 + 3, none⟩ = some (.int .i64 (xs.getD (k * 5 + 3) 0)) ∧ w.cell? ⟨b, off + k * 5 + 4, none⟩ = some (.int .i64 (xs.getD (k * 5 + 4) 0))) := by
  rcases h with h | ⟨b, off, ha, hb, hc⟩
  · rw [h] at hl; simp at hl; omega
  · refine ⟨b, off, ha, hb, ?_, ?_, ?_, ?_, ?_⟩
    · have := hc (k * 5) (by omega); exact this
    · have := hc (k * 5 + 1) (by omega); rw [← Nat.add_assoc] at this; exact this
    · have := hc (k * 5 + 2) (by omega); rw [← Nat.add_assoc] at this; exact this
    · have := hc (k * 5 + 3) (by omega); rw [← Nat.add_assoc] at this; exact this
    · have := hc (k * 5 + 4) (by omega); rw [← Nat.add_assoc] at this; exact this
set_option maxHeartbeats 1000000 in
theorem c_eqFlowS (a b : Option Addr) (n ca cb : Nat) (xs : List Int) (w : World) (hxs : xs.length = n * 5) (hn : n ≤ 1048576) (ha : Ints w a xs) (hb : Ints w b xs) :
    Calls Try.prog 59 #[.slice a n ca, .slice b n cb] w fun e w' => e = .returned (.bool true) ∧ Below w.heap.size w w' := by
  have HX := Lib.hid hxs
  have HA := Lib.hid ha
  have HB := Lib.hid hb
  clear hxs ha hb
  go_enter Try.func59, Try.ntmps59
  go_wp2
  go_loopw [5] (fun i wr => ∃ (k : Nat), k ≤ n ∧ i = .int .i64 k ∧ Below w.heap.size w wr) (fun i _ => n - (intOf i).toNat)
  case atStart => exact ⟨0, Nat.zero_le _, rfl, Below.refl _ _⟩
  case round =>
    obtain ⟨k, hk, rfl, hG⟩ := hrel
    have HG := Lib.hid hG
    have hz := hG.size
    clear hG
    by_cases hlt : k < n
    · obtain ⟨b1, off1, rfl, _, c0, c1, c2, c3, c4⟩ := zFlow HX.out hlt (HA.out.below HG.out)
      obtain ⟨b2, off2, rfl, _, d0, d1, d2, d3, d4⟩ := zFlow HX.out hlt (HB.out.below HG.out)
      generalize xs.getD (k * 5) 0 = x0 at *
      generalize xs.getD (k * 5 + 1) 0 = x1 at *
      generalize xs.getD (k * 5 + 2) 0 = x2 at *
      generalize xs.getD (k * 5 + 3) 0 = x3 at *
      generalize xs.getD (k * 5 + 4) 0 = x4 at *
      have e0 := aft_cell c0
      have e1 := aft_cell c1
      have e2 := aft_cell c2
      have e3 := aft_cell c3
      have e4 := aft_cell c4
      have f0 := aft_cell d0
      have f1 := aft_cell d1
      have f2 := aft_cell d2
      have f3 := aft_cell d3
      have f4 := aft_cell d4
      clear c0 c1 c2 c3 c4 d0 d1 d2 d3 d4
      go_wp2
      refine wp_region_quietC (by kernel_rfl) (by kernel_rfl) ?_
      repeat (go_big_quiet_step ((go_at_call 27; exact aft_call (c_eqFlow _ _ _ _ _ _))))
      refine wpQuiet_nil ?_
      rintro _ ⟨⟨w6, hb6⟩, rfl⟩
      have HG6 := Lib.hid (Below.step HG.out hb6 hz)
      clear hb6 e0 f0 e1 f1 e2 f2 e3 f3 e4 f4
      go_wp2
      go_roundw
      case rel => exact ⟨k + 1, by omega, by go_num, HG6.out⟩
      case measure => simp [intOf]; omega
    · go_wp2
      go_ret
      exact ⟨rfl, HG.out⟩
set_option maxHeartbeats 2000000 in
theorem c_toFlowS (a : Option Addr) (n cap : Nat) (xs : List Int) (w : World) (hxs : xs.length = n * 5) (hn : n ≤ 1048576) (h : Ints w a xs) :
    Calls Try.prog 58 #[.slice a n cap] w (RetRow w 27 5 n (xs.map (Value.int .i64))) := by
  obtain ⟨i0, hi, hz0, hz1, hz2⟩ := info_parts zeroFlow
  have HX := Lib.hid hxs
  have HI := Lib.hid h
  clear h hxs
  go_enter Try.func58, Try.ntmps58
  go_wp2_with (at_make; refine wpList_make_full _ rfl _ _ 23 rfl w.heap.size 27 i0 (.agg #[.int .i64 0, .int .i64 0, .int .i64 0, .int .i64 0, .int .i64 0]) 5 Try.underlying23 hi hz0 hz1 .i64 .i64 _ _ n rfl rfl rfl rfl ?c1 ?c2 ?c3 ?c4)
  case c1 => rw [hz2]; omega
  case c2 => unfold maxLen; omega
  case c3 => exact Nat.le_refl _
  case c4 =>
    intro w1 hown hgr
    have HO := Lib.hid hown
    have HG := Lib.hid hgr
    clear hown hgr
    go_wp2
    go_loopw [4] (fun i wr => ∃ (k : Nat) (C : List Value), k ≤ n ∧ i = .int .i64 k ∧ C.length = n * 5 ∧ (∀ t, t < k * 5 → C[t]? = some (.int .i64 (xs.getD t 0))) ∧ wr.ownsRow w.heap.size 27 5 (.slice (some ⟨w.heap.size, 0, none⟩) n n) n C ∧ Below w.heap.size w wr) (fun i _ => n - (intOf i).toNat)
    case atStart => exact ⟨0, _, Nat.zero_le _, rfl, row_len HO.out, fun j hj => by omega, HO.out, grown_below HG.out⟩
    case round =>
      obtain ⟨k, C, hk, rfl, hC, hCk, hown, hgr⟩ := hrel
      have HO := Lib.hid hown
      have HG := Lib.hid hgr
      have HK := Lib.hid hCk
      have HC := Lib.hid hC
      have hzz := hgr.size
      clear hown hgr hCk hC
      by_cases hlt : k < n
      · obtain ⟨b, off, rfl, hb, c0, c1, c2, c3, c4⟩ := zFlow HX.out hlt (HI.out.below HG.out)
        generalize g0 : xs.getD (k * 5) 0 = x0 at *
        generalize g1 : xs.getD (k * 5 + 1) 0 = x1 at *
        generalize g2 : xs.getD (k * 5 + 2) 0 = x2 at *
        generalize g3 : xs.getD (k * 5 + 3) 0 = x3 at *
        generalize g4 : xs.getD (k * 5 + 4) 0 = x4 at *
        have HE := Lib.hid ((And.intro g0 (And.intro g1 (And.intro g2 (And.intro g3 g4)))))
        clear g0 g1 g2 g3 g4
        go_wp2_with fail
        refine (c_toFlow x0 x1 x2 x3 x4 _).mono ?_; rintro e w2 ⟨rfl, b2⟩
        have HO2 := Lib.hid (row_below HO.out b2)
        have HG2 := Lib.hid (Below.step HG.out b2 hzz)
        clear b2 c0 c1 c2 c3 c4
        have hl3 : C.length = n * 5 := HC.out
        have e0 := HO2.out.cellAt (k * 5) (by omega)
        have e1 := HO2.out.cellAt (k * 5 + 1) (by omega)
        have e2 := HO2.out.cellAt (k * 5 + 2) (by omega)
        have e3 := HO2.out.cellAt (k * 5 + 3) (by omega)
        have e4 := HO2.out.cellAt (k * 5 + 4) (by omega)
        rw [List.getElem?_eq_getElem (by omega)] at e0 e1 e2 e3 e4
        have f0 := HO2.out.frozenAt (k * 5)
        have f1 := HO2.out.frozenAt (k * 5 + 1)
        have f2 := HO2.out.frozenAt (k * 5 + 2)
        have f3 := HO2.out.frozenAt (k * 5 + 3)
        have f4 := HO2.out.frozenAt (k * 5 + 4)
        have HS3 := Lib.hid ((((((HO2.out.stored (k * 5) (.int .i64 x0)).1.stored (k * 5 + 1) (.int .i64 x1)).1.stored (k * 5 + 2) (.int .i64 x2)).1.stored (k * 5 + 3) (.int .i64 x3)).1.stored (k * 5 + 4) (.int .i64 x4)).1)
        generalize C[k * 5]'(by omega) = v0 at e0
        generalize C[k * 5 + 1]'(by omega) = v1 at e1
        generalize C[k * 5 + 2]'(by omega) = v2 at e2
        generalize C[k * 5 + 3]'(by omega) = v3 at e3
        generalize C[k * 5 + 4]'(by omega) = v4 at e4
        clear hl3
        go_wp2
        go_roundw
        case rel =>
          refine ⟨k + 1, (((((C.set (k * 5) (.int .i64 x0)).set (k * 5 + 1) (.int .i64 x1)).set (k * 5 + 2) (.int .i64 x2)).set (k * 5 + 3) (.int .i64 x3)).set (k * 5 + 4) (.int .i64 x4)), by omega, by go_num, by simp [HC.out], fun t ht => ?_, HS3.out, (((((HG2.out.setCell (by simp) _).setCell (by simp) _).setCell (by simp) _).setCell (by simp) _).setCell (by simp) _)⟩
          have hl3 := HC.out
          obtain ⟨q0, q1, q2, q3, q4⟩ := HE.out
          by_cases t4 : t = k * 5 + 4
          · subst t4; rw [List.getElem?_set_self (by first | omega | (simp; omega)), q4]
          by_cases t3 : t = k * 5 + 3
          · subst t3; rw [List.getElem?_set_ne (by omega)]; rw [List.getElem?_set_self (by first | omega | (simp; omega)), q3]
          by_cases t2 : t = k * 5 + 2
          · subst t2; rw [List.getElem?_set_ne (by omega)]; rw [List.getElem?_set_ne (by omega)]; rw [List.getElem?_set_self (by first | omega | (simp; omega)), q2]
          by_cases t1 : t = k * 5 + 1
          · subst t1; rw [List.getElem?_set_ne (by omega)]; rw [List.getElem?_set_ne (by omega)]; rw [List.getElem?_set_ne (by omega)]; rw [List.getElem?_set_self (by first | omega | (simp; omega)), q1]
          by_cases t0 : t = k * 5
          · subst t0; rw [List.getElem?_set_ne (by omega)]; rw [List.getElem?_set_ne (by omega)]; rw [List.getElem?_set_ne (by omega)]; rw [List.getElem?_set_ne (by omega)]; rw [List.getElem?_set_self (by first | omega | (simp; omega)), q0]
          · rw [List.getElem?_set_ne (by omega)]; rw [List.getElem?_set_ne (by omega)]; rw [List.getElem?_set_ne (by omega)]; rw [List.getElem?_set_ne (by omega)]; rw [List.getElem?_set_ne (by omega)]; exact HK.out t (by omega)
        case measure => simp [intOf]; omega
      · obtain rfl : k = n := by omega
        go_wp2
        go_ret
        have := HO.out
        rw [cells_eq (by rw [HC.out, HX.out]) (fun j hj => HK.out j (by rw [← HX.out]; exact hj))] at this
        exact ⟨_, _, rfl, this, below_grown HG.out⟩
end Go.Proofs.Ytalalapjanckdaa
