/- OutletValid of the reference. No condition but lists of at most 2^20 flows. -/
import Derived.Test.YtalalapjanckdaaOutV
namespace Go.Proofs.Ytalalapjanckdaa
open Go.RowKit
set_option maxRecDepth 100000 in
set_option maxHeartbeats 8000000 in
theorem s_OutletValid (o r : Int) (a : Option Addr) (n cap : Nat) (fs : List F5) (w : World) (hxs : fs.length = n) (hn : n ≤ 1048576) (h : Flws w a fs) :
    Calls Try.prog 53 #[.agg #[.int .i64 o, .int .i64 r, .slice a n cap]] w fun e w' => e = .returned (.bool (ov o r fs)) ∧ Below w.heap.size w w' := by
  have HX := Lib.hid hxs
  have HI := Lib.hid h
  clear h hxs
  go_enter Try.func53, Try.ntmps53
  go_wp2
  go_loopw [3] (fun i wr => ∃ (k : Nat), k ≤ n ∧ i = .int .i64 k ∧ Below w.heap.size w wr ∧ Box wr w.heap.size 25 [.int .i64 o, .int .i64 r, .slice a n cap] ∧ Hid (∀ j, j < k → oOk fs j = true)) (fun i _ => n - (intOf i).toNat)
  case atStart => exact ⟨0, Nat.zero_le _, rfl, (Below.refl _ _).alloc (Nat.le_refl _) _, Box.new _ _ _, Lib.hid fun j hj => by omega⟩
  case round =>
    obtain ⟨k, hk, rfl, hG, hB, HV⟩ := hrel
    have HG := Lib.hid hG
    have HBX := Lib.hid hB
    have hz := hG.size
    have hszb := hB.lt
    clear hG hB
    obtain ⟨t0, t1, t2, ft⟩ := HBX.out.three
    by_cases hlt : k < n
    · obtain ⟨b, off, rfl, hb, _⟩ := (HI.out.below HG.out).at HX.out hlt
      have HGood : Hid (oOk fs k = true → ∀ j, j < k + 1 → oOk fs j = true) := Lib.hid (fun h j hj => by
        by_cases hjk : j = k
        · subst hjk; exact h
        · exact HV.out j (by omega))
      have HBad : Hid (oOk fs k = false → ov o r fs = false) := Lib.hid (fun h => ov_not (by rw [HX.out]; exact hlt) h)
      have HT : Hid (oOk fs k = (decide (fs.getD k z5 = z5) || (fv (fs.getD k z5) && !(decide (fs.getD k z5 ∈ fs.take k))))) := Lib.hid rfl
      have HMem : Hid (∀ j, j < k → fs.getD j z5 = fs.getD k z5 → fs.getD k z5 ∈ fs.take k) := Lib.hid (fun j hj he => by
        rw [← he, List.mem_take_iff_getElem]
        exact ⟨j, by have := HX.out; omega, by rw [List.getD_eq_getElem?_getD, List.getElem?_eq_getElem (by have := HX.out; omega)]; rfl⟩)
      have HNo : Hid ((∀ j, j < k → fs.getD j z5 ≠ fs.getD k z5) → fs.getD k z5 ∉ fs.take k) := Lib.hid (fun hno hm => by
        obtain ⟨j, hj, he⟩ := List.mem_take_iff_getElem.1 hm
        refine hno j (by omega) ?_
        rw [List.getD_eq_getElem?_getD, List.getElem?_eq_getElem (by omega)]
        exact he)
      clear HV
      go_wp2
      generalize hgb : wr.heap.size = gb at *
      obtain ⟨wA, rfl⟩ : ∃ x, x = wr := ⟨_, rfl⟩
      have HGA := Lib.hid HG.out
      have HBA := Lib.hid HBX.out
      clear t0 t1 t2 ft HG HBX
      go_loopw [4] (fun i wr => ∃ (j : Nat), j ≤ k ∧ i = .int .i64 j ∧ Below w.heap.size w wr ∧ Box wr w.heap.size 25 [.int .i64 o, .int .i64 r, .slice (some ⟨b, off, none⟩) n cap] ∧ Hid (fs.getD k z5 = z5 ∨ ∀ i, i < j → fs.getD i z5 ≠ fs.getD k z5)) (fun i _ => k - (intOf i).toNat)
      case atStart => exact ⟨0, Nat.zero_le _, rfl, HGA.out, HBA.out, Lib.hid (.inr fun j hj => by omega)⟩
      case round =>
        obtain ⟨j, hj, rfl, hG, hB, HV⟩ := hrel
        have HG := Lib.hid hG
        have HBX := Lib.hid hB
        clear hG hB
        obtain ⟨t0, t1, t2, ft⟩ := HBX.out.three
        obtain ⟨b', off', hbe, hb', hc⟩ := (HI.out.below HG.out).at HX.out hlt
        cases hbe
        obtain ⟨c0, c1, c2, c3, c4⟩ := hc k hlt
        have hcj := Lib.hid (fun (h : j < k) => hc j (by omega))
        clear hc
        have HEQ := Lib.hid (rfl : fs.getD k z5 = fs.getD k z5)
        obtain ⟨E, hE⟩ : ∃ E, E = fs.getD k z5 := ⟨_, rfl⟩
        rw [← hE] at c0 c1 c2 c3 c4
        have HE := Lib.hid hE
        clear hE HEQ
        obtain ⟨x0, x1, x2, x3, x4⟩ := E
        dsimp only at c0 c1 c2 c3 c4
        by_cases hjk : j < k
        · obtain ⟨d0, d1, d2, d3, d4⟩ := hcj.out hjk
          obtain ⟨E2, hE2⟩ : ∃ E2, E2 = fs.getD j z5 := ⟨_, rfl⟩
          rw [← hE2] at d0 d1 d2 d3 d4
          have HE2 := Lib.hid hE2
          clear hE2 hcj
          obtain ⟨q0, q1, q2, q3, q4⟩ := E2
          dsimp only at d0 d1 d2 d3 d4
          have hjn : j < n := by omega
          by_cases hq : ((q0, q1, q2, q3, q4) : F5) = (x0, x1, x2, x3, x4)
          · have hqe := eqlF_yes' hq
            by_cases hzz : ((x0, x1, x2, x3, x4) : F5) = z5
            · have hqn := neqF_no' (y0 := 0) (y1 := 0) (y2 := 0) (y3 := 0) (y4 := 0) hzz
              have HV2 : Hid (fs.getD k z5 = z5 ∨ ∀ i, i < j + 1 → fs.getD i z5 ≠ fs.getD k z5) := Lib.hid (.inl (by rw [← HE.out]; exact hzz))
              clear hq hzz
              go_wp2
              go_quiet (fail)
              go_wp2
              go_roundw
              case rel => exact ⟨j + 1, by omega, by go_num, below_drewN HG.out _, HBX.out.drewN _, HV2⟩
              case measure => simp [intOf]; omega
            · have hqn := neqF_yes' (y0 := 0) (y1 := 0) (y2 := 0) (y3 := 0) (y4 := 0) hzz
              have HR := Lib.hid (HBad.out (by
                rw [HT.out, decide_eq_true (HMem.out j hjk (by rw [← HE.out, ← HE2.out]; exact hq)), ← HE.out, decide_eq_false hzz]; simp))
              clear hq hzz
              go_wp2
              go_quiet (fail)
              go_wp2
              go_ret
              exact ⟨ret_bool HR.out.symm, below_drewN HG.out _⟩
          · have hqe := eqlF_no' hq
            have HV2 : Hid (fs.getD k z5 = z5 ∨ ∀ i, i < j + 1 → fs.getD i z5 ≠ fs.getD k z5) := Lib.hid (by
              rcases HV.out with h | h
              · exact .inl h
              · refine .inr fun i hi => ?_
                by_cases hij : i = j
                · subst hij; rw [← HE.out, ← HE2.out]; exact hq
                · exact h i (by omega))
            clear hq
            go_wp2
            go_quiet (fail)
            go_wp2
            go_roundw
            case rel => exact ⟨j + 1, by omega, by go_num, below_drewN HG.out _, HBX.out.drewN _, HV2⟩
            case measure => simp [intOf]; omega
        · obtain rfl : j = k := by omega
          clear hcj
          by_cases hzz : ((x0, x1, x2, x3, x4) : F5) = z5
          · have hqn := neqF_no' (y0 := 0) (y1 := 0) (y2 := 0) (y3 := 0) (y4 := 0) hzz
            have HV2 := Lib.hid (HGood.out (by rw [HT.out, ← HE.out, decide_eq_true hzz]; rfl))
            clear hzz
            go_wp2
            go_roundw
            case rel => exact ⟨j + 1, by omega, by go_num, HG.out, HBX.out, HV2⟩
            case measure => simp [intOf]; omega
          · have hqn := neqF_yes' (y0 := 0) (y1 := 0) (y2 := 0) (y3 := 0) (y4 := 0) hzz
            have HT2 := Lib.hid (HT.out.trans (by rw [← HE.out, decide_eq_false hzz, Bool.false_or]))
            have HNM := Lib.hid (HNo.out (by
              rcases HV.out with h | h
              · exact absurd (HE.out.trans h) hzz
              · exact h))
            clear hzz
            go_wp2_with fail
            (refine (s_FlowValid (x0, x1, x2, x3, x4) _).mono ?_)
            rintro e w6 ⟨rfl, b6⟩
            have HG6 := Lib.hid (Below.step HG.out b6 HG.out.size)
            have HBX6 := Lib.hid (HBX.out.keep b6)
            clear b6 c0 c1 c2 c3 c4 t0 t1 t2 ft
            cases h5 : fv (x0, x1, x2, x3, x4)
            · have HR := Lib.hid (HBad.out (by rw [HT2.out, h5]; rfl))
              clear h5
              go_wp2
              go_ret
              exact ⟨ret_bool HR.out.symm, HG6.out⟩
            · have HV2 := Lib.hid (HGood.out (by rw [HT2.out, h5, HE.out, decide_eq_false HNM.out]; rfl))
              clear h5
              go_wp2
              go_roundw
              case rel => exact ⟨j + 1, by omega, by go_num, HG6.out, HBX6.out, HV2⟩
              case measure => simp [intOf]; omega
    · obtain rfl : k = n := by omega
      have hi0 : IntKind.i64.wrap (999 - (k : Int)) = 999 - (k : Int) := IntWalk.i64_in _ (by omega)
      have hi1 : IntKind.i64.wrap (999 - (k : Int) + 1) = 999 - (k : Int) + 1 := IntWalk.i64_in _ (by omega)
      have HR := Lib.hid ((ov_of (o := o) (r := r) (fs := fs) (by rw [HX.out]; exact HV.out)).trans (by rw [HX.out]))
      cases h1 : inB o 0 255
      · go_wp2_with (go_at_call 73; refine (c_l1In _ _ _ _).mono ?_; rintro e w' ⟨rfl, rfl⟩)
        go_ret
        exact ⟨ret_bool (by rw [HR.out, h1]; rfl), HG.out⟩
      cases h2 : inB (k : Int) 1 8
      · go_wp2_with (go_at_call 73; refine (c_l1In _ _ _ _).mono ?_; rintro e w' ⟨rfl, rfl⟩)
        go_ret
        exact ⟨ret_bool (by rw [HR.out, h1, h2]; rfl), HG.out⟩
      go_wp2_with (go_at_call 73; refine (c_l1In _ _ _ _).mono ?_; rintro e w' ⟨rfl, rfl⟩)
      go_ret
      exact ⟨ret_bool (by rw [HR.out, h1, h2]; rfl), HG.out⟩
end Go.Proofs.Ytalalapjanckdaa
