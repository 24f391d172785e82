/- TableValid of the reference. No condition but lists of at most 2^20 entries. -/
import Derived.Test.YtdkdfehlmphikaaTabP
namespace Go.Proofs.Ytdkdfehlmphikaa
open Go.RowKit
set_option maxRecDepth 100000 in
set_option maxHeartbeats 8000000 in
theorem s_TableValid (sz st : Int) (a : Option Addr) (n cap : Nat) (es : List E7) (w : World) (hxs : es.length = n) (hn : n ≤ 1048576) (hcap : n ≤ cap) (h : Ents w a es) :
    Calls Try.prog 60 #[.agg #[.int .i64 sz, .int .i64 st, .slice a n cap]] w fun e w' => e = .returned (.bool (tv sz st es)) ∧ Below w.heap.size w w' := by
  have HX := Lib.hid hxs
  have HI := Lib.hid h
  clear h hxs
  go_enter Try.func60, Try.ntmps60
  go_wp2
  go_loopw [3] (fun i wr => ∃ (k : Nat), k ≤ n ∧ i = .int .i64 k ∧ Below w.heap.size w wr ∧ Box wr w.heap.size 30 [.int .i64 sz, .int .i64 st, .slice a n cap] ∧ Hid (∀ j, j < k → eOk es j = true)) (fun i _ => n - (intOf i).toNat)
  case atStart =>
    exact ⟨0, Nat.zero_le _, rfl, (Below.refl _ _).alloc (Nat.le_refl _) _, Box.new _ _ _, Lib.hid fun j hj => by omega⟩
  case round =>
    obtain ⟨k, hk, rfl, hG, hB, HV⟩ := hrel
    have HG := Lib.hid hG
    have HBX := Lib.hid hB
    have hz := hG.size
    have hsz : w.heap.size < wr.heap.size := hB.lt
    obtain ⟨tb0, tb1, tb2, ftb⟩ := hB.three
    clear hG hB
    by_cases hlt : k < n
    · have HEn := Lib.hid (HI.out.below HG.out)
      obtain ⟨b, off, rfl, hb, hc⟩ := HEn.out.at HX.out hlt
      obtain ⟨c0, c1, c2, c3, c4, c5, c6⟩ := hc k hlt
      have hcp := Lib.hid (fun (_ : 0 < k) => (hc (k - 1) (by omega)).2.2.2.2.2.2)
      have HT : Hid (eOk es k = (fv (es.getD k e0).1 && !(decide ((es.getD k e0).1 ∈ (es.take k).map (·.1))) && inB (es.getD k e0).2.1 0 30 && inB (es.getD k e0).2.2 0 100000 && (decide (k = 0) || decide ((es.getD (k - 1) e0).2.2 ≤ (es.getD k e0).2.2)))) := Lib.hid rfl
      have hcy0 := hcp
      clear hc hcp
      generalize hE : es.getD k e0 = E at *
      obtain ⟨⟨x0, x1, x2, x3, x4⟩, x5, x6⟩ := E
      have HF : Hid ((es.getD k e0).1 = (x0, x1, x2, x3, x4)) := Lib.hid (by rw [hE])
      clear hE
      dsimp only at c0 c1 c2 c3 c4 c5 c6
      have HE := Lib.hid (Box.new wr 69 [.int .i64 x0, .int .i64 x1, .int .i64 x2, .int .i64 x3, .int .i64 x4, .int .i64 x5, .int .i64 x6])
      obtain ⟨y0, y1, y2, y3, y4, y5, y6, fy⟩ := HE.out.seven
      have a0 := aft_cell y0
      have a1 := aft_cell y1
      have a2 := aft_cell y2
      have a3 := aft_cell y3
      have a4 := aft_cell y4
      have a5 := aft_cell y5
      have a6 := aft_cell y6
      have t2 := aft_cell ((HBX.out.alloc (.cells #[.int .i64 x0, .int .i64 x1, .int .i64 x2, .int .i64 x3, .int .i64 x4, .int .i64 x5, .int .i64 x6] 69)).three).2.2.1
      clear y0 y1 y2 y3 y4 y5 y6 fy
      have hz2 : w.heap.size ≤ (wr.alloc (.cells #[.int .i64 x0, .int .i64 x1, .int .i64 x2, .int .i64 x3, .int .i64 x4, .int .i64 x5, .int .i64 x6] 69)).heap.size := by simp; omega
      have HG2 := Lib.hid (HG.out.alloc hz (.cells #[.int .i64 x0, .int .i64 x1, .int .i64 x2, .int .i64 x3, .int .i64 x4, .int .i64 x5, .int .i64 x6] 69))
      have HEn2 := Lib.hid (HEn.out.below ((Below.refl wr.heap.size wr).alloc (Nat.le_refl _) (.cells #[.int .i64 x0, .int .i64 x1, .int .i64 x2, .int .i64 x3, .int .i64 x4, .int .i64 x5, .int .i64 x6] 69)))
      have hen := fun (m : Aft (wr.alloc (.cells #[.int .i64 x0, .int .i64 x1, .int .i64 x2, .int .i64 x3, .int .i64 x4, .int .i64 x5, .int .i64 x6] 69))) => (HEn2.out.below m.le).take k
      have hlk := Lib.hid (show (es.take k).length = k by rw [List.length_take, HX.out]; omega)
      have hkc : k ≤ cap := by omega
      cases h5 : fv (x0, x1, x2, x3, x4)
      · have HBad : Hid (eOk es k = false) := Lib.hid (by rw [HT.out]; simp [h5])
        go_wp2
        have HR := Lib.hid (tv_not (sz := sz) (st := st) (es := es) (k := k) (by have := HX.out; omega) HBad.out)
        refine wp_region_quietC (by kernel_rfl) (by kernel_rfl) ?_
        repeat (go_big_quiet_step ((first
          | (go_at_call 67; exact aft_call (s_FlowValid (x0, x1, x2, x3, x4) _))
          | (go_at_call 87; exact aft_same (q_l1In' _ _ _ _))
          | (go_at_call 82; exact aft_call (c_placeV (x0, x1, x2, x3, x4) _ _ k _ (es.take k) _ hlk.out (by omega) (hen _) hpv.out)))))
        refine wpQuiet_nil ?_
        rintro _ ⟨⟨w6, hb6⟩, rfl⟩
        have HB6 := Lib.hid (Below.step HG2.out hb6 hz2)
        clear hb6
        go_wp2
        go_ret
        exact ⟨ret_bool HR.out.symm, HB6.out⟩
      have HT2 : Hid (eOk es k = (!(decide ((x0, x1, x2, x3, x4) ∈ (es.take k).map (·.1))) && inB x5 0 30 && inB x6 0 100000 && (decide (k = 0) || decide ((es.getD (k - 1) e0).2.2 ≤ x6)))) := Lib.hid (by rw [HT.out]; simp only [h5]; simp)
      clear HT
      cases h7 : inB x5 0 30
      · have HBad : Hid (eOk es k = false) := Lib.hid (by rw [HT2.out, h7]; simp)
        go_wp2
        have HR := Lib.hid (tv_not (sz := sz) (st := st) (es := es) (k := k) (by have := HX.out; omega) HBad.out)
        refine wp_region_quietC (by kernel_rfl) (by kernel_rfl) ?_
        repeat (go_big_quiet_step ((first
          | (go_at_call 67; exact aft_call (s_FlowValid (x0, x1, x2, x3, x4) _))
          | (go_at_call 87; exact aft_same (q_l1In' _ _ _ _))
          | (go_at_call 82; exact aft_call (c_placeV (x0, x1, x2, x3, x4) _ _ k _ (es.take k) _ hlk.out (by omega) (hen _) hpv.out)))))
        refine wpQuiet_nil ?_
        rintro _ ⟨⟨w6, hb6⟩, rfl⟩
        have HB6 := Lib.hid (Below.step HG2.out hb6 hz2)
        clear hb6
        go_wp2
        go_ret
        exact ⟨ret_bool HR.out.symm, HB6.out⟩
      cases h8 : inB x6 0 100000
      · have HBad : Hid (eOk es k = false) := Lib.hid (by rw [HT2.out, h7, h8]; simp)
        go_wp2
        have HR := Lib.hid (tv_not (sz := sz) (st := st) (es := es) (k := k) (by have := HX.out; omega) HBad.out)
        refine wp_region_quietC (by kernel_rfl) (by kernel_rfl) ?_
        repeat (go_big_quiet_step ((first
          | (go_at_call 67; exact aft_call (s_FlowValid (x0, x1, x2, x3, x4) _))
          | (go_at_call 87; exact aft_same (q_l1In' _ _ _ _))
          | (go_at_call 82; exact aft_call (c_placeV (x0, x1, x2, x3, x4) _ _ k _ (es.take k) _ hlk.out (by omega) (hen _) hpv.out)))))
        refine wpQuiet_nil ?_
        rintro _ ⟨⟨w6, hb6⟩, rfl⟩
        have HB6 := Lib.hid (Below.step HG2.out hb6 hz2)
        clear hb6
        go_wp2
        go_ret
        exact ⟨ret_bool HR.out.symm, HB6.out⟩
      by_cases hk0 : k = 0
      · have hk1 : decide (0 < k) = false := by simp; omega
        rcases pOf_cases (es.take k) (x0, x1, x2, x3, x4) with ⟨hno, hpo⟩ | ⟨hyes, jp, hpo, _⟩
        · have HGood : Hid (eOk es k = true) := Lib.hid (by rw [HT2.out, h7, h8, decide_eq_false hno, decide_eq_true hk0]; simp)
          have hpv := Lib.hid hpo
          clear hno hpo HT2 hk0
          go_wp2
          refine wp_region_quietC (by kernel_rfl) (by kernel_rfl) ?_
          repeat (go_big_quiet_step ((first
            | (go_at_call 67; exact aft_call (s_FlowValid (x0, x1, x2, x3, x4) _))
            | (go_at_call 87; exact aft_same (q_l1In' _ _ _ _))
            | (go_at_call 82; exact aft_call (c_placeV (x0, x1, x2, x3, x4) _ _ k _ (es.take k) _ hlk.out (by omega) (hen _) hpv.out)))))
          refine wpQuiet_nil ?_
          rintro _ ⟨⟨w6, hb6⟩, rfl⟩
          have HB6 := Lib.hid hb6
          have HBX6 := Lib.hid ((HBX.out.alloc _).keep HB6.out)
          clear hb6
          go_wp2
          go_roundw
          case rel =>
            refine ⟨k + 1, by omega, by go_num, ?_, ?_, Lib.hid fun j hj => ?_⟩
            · exact Below.step HG2.out HB6.out hz2
            · exact HBX6.out
            · by_cases hjk : j = k
              · subst hjk; exact HGood.out
              · exact HV.out j (by omega)
          case measure => simp [intOf]; omega
        · have HBad : Hid (eOk es k = false) := Lib.hid (by rw [HT2.out, decide_eq_true hyes]; rfl)
          have hpv := Lib.hid hpo
          clear hyes hpo HT2 hk0
          go_wp2
          have HR := Lib.hid (tv_not (sz := sz) (st := st) (es := es) (k := k) (by have := HX.out; omega) HBad.out)
          refine wp_region_quietC (by kernel_rfl) (by kernel_rfl) ?_
          repeat (go_big_quiet_step ((first
            | (go_at_call 67; exact aft_call (s_FlowValid (x0, x1, x2, x3, x4) _))
            | (go_at_call 87; exact aft_same (q_l1In' _ _ _ _))
            | (go_at_call 82; exact aft_call (c_placeV (x0, x1, x2, x3, x4) _ _ k _ (es.take k) _ hlk.out (by omega) (hen _) hpv.out)))))
          refine wpQuiet_nil ?_
          rintro _ ⟨⟨w6, hb6⟩, rfl⟩
          have HB6 := Lib.hid (Below.step HG2.out hb6 hz2)
          clear hb6
          go_wp2
          go_ret
          exact ⟨ret_bool HR.out.symm, HB6.out⟩
      have hk1 : decide (0 < k) = true := by simp; omega
      have hcy := hcy0.out (by omega)
      generalize (es.getD (k - 1) e0).2.2 = M at *
      have hcy2 := aft_cell (keep hcy (.cells #[.int .i64 x0, .int .i64 x1, .int .i64 x2, .int .i64 x3, .int .i64 x4, .int .i64 x5, .int .i64 x6] 69))
      have hi1 : IntKind.i64.wrap ((k : Int) - 1) = (k : Int) - 1 := IntWalk.i64_in _ (by omega)
      have hi2 : ((k : Int) - 1).toNat = k - 1 := by omega
      have hi3 : 0 ≤ (k : Int) - 1 := by omega
      have hi4 : (k : Int) - 1 < (n : Int) := by omega
      clear hcy
      by_cases hle : M ≤ x6
      · have hle2 : decide (x6 < M) = false := by simp; omega
        rcases pOf_cases (es.take k) (x0, x1, x2, x3, x4) with ⟨hno, hpo⟩ | ⟨hyes, jp, hpo, _⟩
        · have HGood : Hid (eOk es k = true) := Lib.hid (by rw [HT2.out, h7, h8, decide_eq_false hno, decide_eq_true hle]; simp)
          have hpv := Lib.hid hpo
          clear hno hpo HT2 hle
          go_wp2
          refine wp_region_quietC (by kernel_rfl) (by kernel_rfl) ?_
          repeat (go_big_quiet_step ((first
            | (go_at_call 67; exact aft_call (s_FlowValid (x0, x1, x2, x3, x4) _))
            | (go_at_call 87; exact aft_same (q_l1In' _ _ _ _))
            | (go_at_call 82; exact aft_call (c_placeV (x0, x1, x2, x3, x4) _ _ k _ (es.take k) _ hlk.out (by omega) (hen _) hpv.out)))))
          refine wpQuiet_nil ?_
          rintro _ ⟨⟨w6, hb6⟩, rfl⟩
          have HB6 := Lib.hid hb6
          have HBX6 := Lib.hid ((HBX.out.alloc _).keep HB6.out)
          clear hb6
          go_wp2
          go_roundw
          case rel =>
            refine ⟨k + 1, by omega, by go_num, ?_, ?_, Lib.hid fun j hj => ?_⟩
            · exact Below.step HG2.out HB6.out hz2
            · exact HBX6.out
            · by_cases hjk : j = k
              · subst hjk; exact HGood.out
              · exact HV.out j (by omega)
          case measure => simp [intOf]; omega
        · have HBad : Hid (eOk es k = false) := Lib.hid (by rw [HT2.out, decide_eq_true hyes]; rfl)
          have hpv := Lib.hid hpo
          clear hyes hpo HT2 hle
          go_wp2
          have HR := Lib.hid (tv_not (sz := sz) (st := st) (es := es) (k := k) (by have := HX.out; omega) HBad.out)
          refine wp_region_quietC (by kernel_rfl) (by kernel_rfl) ?_
          repeat (go_big_quiet_step ((first
            | (go_at_call 67; exact aft_call (s_FlowValid (x0, x1, x2, x3, x4) _))
            | (go_at_call 87; exact aft_same (q_l1In' _ _ _ _))
            | (go_at_call 82; exact aft_call (c_placeV (x0, x1, x2, x3, x4) _ _ k _ (es.take k) _ hlk.out (by omega) (hen _) hpv.out)))))
          refine wpQuiet_nil ?_
          rintro _ ⟨⟨w6, hb6⟩, rfl⟩
          have HB6 := Lib.hid (Below.step HG2.out hb6 hz2)
          clear hb6
          go_wp2
          go_ret
          exact ⟨ret_bool HR.out.symm, HB6.out⟩
      · have HBad : Hid (eOk es k = false) := Lib.hid (by rw [HT2.out, h7, h8, decide_eq_false hk0, decide_eq_false (show ¬ M ≤ x6 by omega)]; simp)
        have hle2 : decide (x6 < M) = true := by simp; omega
        clear hle HT2
        go_wp2
        have HR := Lib.hid (tv_not (sz := sz) (st := st) (es := es) (k := k) (by have := HX.out; omega) HBad.out)
        refine wp_region_quietC (by kernel_rfl) (by kernel_rfl) ?_
        repeat (go_big_quiet_step ((first
          | (go_at_call 67; exact aft_call (s_FlowValid (x0, x1, x2, x3, x4) _))
          | (go_at_call 87; exact aft_same (q_l1In' _ _ _ _))
          | (go_at_call 82; exact aft_call (c_placeV (x0, x1, x2, x3, x4) _ _ k _ (es.take k) _ hlk.out (by omega) (hen _) hpv.out)))))
        refine wpQuiet_nil ?_
        rintro _ ⟨⟨w6, hb6⟩, rfl⟩
        have HB6 := Lib.hid (Below.step HG2.out hb6 hz2)
        clear hb6
        go_wp2
        go_ret
        exact ⟨ret_bool HR.out.symm, HB6.out⟩
    · obtain rfl : k = n := by omega
      have HR := Lib.hid (tv_of (sz := sz) (st := st) (es := es) (by rw [HX.out]; exact HV.out))
      cases h1 : inB sz 1 12
      · go_wp2_with (go_at_call 87; refine (c_l1In _ _ _ _).mono ?_; rintro e w' ⟨rfl, rfl⟩)
        go_ret
        exact ⟨ret_bool (by rw [HR.out, h1]; rfl), HG.out⟩
      cases h2 : inB st 1 100000
      · go_wp2_with (go_at_call 87; refine (c_l1In _ _ _ _).mono ?_; rintro e w' ⟨rfl, rfl⟩)
        go_ret
        exact ⟨ret_bool (by rw [HR.out, h1, h2]; rfl), HG.out⟩
      by_cases h3 : (k : Int) ≤ sz
      · go_wp2_with (go_at_call 87; refine (c_l1In _ _ _ _).mono ?_; rintro e w' ⟨rfl, rfl⟩)
        go_ret
        exact ⟨ret_bool (by rw [HR.out, h1, h2, HX.out, decide_eq_true h3]; rfl), HG.out⟩
      · go_wp2_with (go_at_call 87; refine (c_l1In _ _ _ _).mono ?_; rintro e w' ⟨rfl, rfl⟩)
        go_ret
        exact ⟨ret_bool (by rw [HR.out, h1, h2, HX.out, decide_eq_false (show ¬ (k : Int) ≤ sz by omega)]; rfl), HG.out⟩
end Go.Proofs.Ytdkdfehlmphikaa
