/- TableValid of the program. No condition but lists of at most 2^20 entries. -/
import Derived.Test.YtdkdfehlmphikaaTab
namespace Go.Proofs.Ytdkdfehlmphikaa
open Go.RowKit
/-- What only turned a block that is new has turned nothing that was there. -/
theorem below_row {w0 w1 w2 : World} {b : Nat} (h : Below w0.heap.size w0 w1) (hg : w1.grownBy w2 (some b)) (hb : w0.heap.size ≤ b) : Below w0.heap.size w0 w2 :=
  h.grown hg h.size (fun g hg => by cases hg; exact hb)
set_option maxRecDepth 100000 in
set_option maxHeartbeats 8000000 in
theorem c_TableValid (sz st : Int) (a : Option Addr) (n cap : Nat) (es : List E7) (w : World) (hxs : es.length = n) (hn : n ≤ 1048576) (h : Ents w a es) :
    Calls Try.prog 20 #[.agg #[.int .i64 sz, .int .i64 st, .slice a n cap]] w fun e w' => e = .returned (.bool (tv sz st es)) ∧ Below w.heap.size w w' := by
  have HX := Lib.hid hxs
  have HI := Lib.hid h
  clear h hxs
  have g0 : Below w.heap.size w (w.alloc (.cells #[.int .i64 sz, .int .i64 st, .slice a n cap] 30)) := (Below.refl _ _).alloc (Nat.le_refl _) _
  have HG0 := Lib.hid g0
  clear g0
  have HQ : Hid (tv sz st es = (inB sz 1 12 && inB st 1 100000 && decide ((es.length : Int) ≤ sz) && (List.range es.length).all (eOk es))) := Lib.hid rfl
  cases h1 : inB sz 1 12
  · go_enter Try.func20, Try.ntmps20
    go_wp2_with (go_at_call 63; refine (c_in _ _ _ _).mono ?_; rintro e w' ⟨rfl, rfl⟩)
    go_ret
    exact ⟨ret_bool (by rw [HQ.out, h1]; rfl), HG0.out⟩
  cases h2 : inB st 1 100000
  · go_enter Try.func20, Try.ntmps20
    go_wp2_with (go_at_call 63; refine (c_in _ _ _ _).mono ?_; rintro e w' ⟨rfl, rfl⟩)
    go_ret
    exact ⟨ret_bool (by rw [HQ.out, h1, h2]; rfl), HG0.out⟩
  by_cases h3 : (n : Int) ≤ sz
  rotate_left
  · have h3' : sz < (n : Int) := by omega
    go_enter Try.func20, Try.ntmps20
    go_wp2_with (go_at_call 63; refine (c_in _ _ _ _).mono ?_; rintro e w' ⟨rfl, rfl⟩)
    go_ret
    exact ⟨ret_bool (by rw [HQ.out, HX.out, decide_eq_false (show ¬ (n : Int) ≤ sz by omega)]; simp), HG0.out⟩
  have h3' : ¬ sz < (n : Int) := by omega
  have HQ2 : Hid ((inB sz 1 12 && inB st 1 100000 && decide ((es.length : Int) ≤ sz)) = true) := Lib.hid (by rw [h1, h2, HX.out, decide_eq_true h3]; rfl)
  have hmm := @run_makeMap Try.prog
  go_enter Try.func20, Try.ntmps20
  go_wp2_with (go_at_call 63; refine (c_in _ _ _ _).mono ?_; rintro e w' ⟨rfl, rfl⟩)
  clear HG0 HQ hmm
  go_loopw [28] (fun i wr => ∃ (k : Nat), k ≤ n ∧ i = .int .i64 k ∧ Below w.heap.size w wr ∧ Box wr w.heap.size 30 [.int .i64 sz, .int .i64 st, .slice a n cap] ∧ Seen wr (w.heap.size + 1) k ((es.take k).map (·.1)) ∧ Hid (∀ j, j < k → eOk es j = true)) (fun i _ => n - (intOf i).toNat)
  case atStart =>
    refine ⟨0, Nat.zero_le _, rfl, by go_grown, (Box.new _ _ _).alloc _, ?_, Lib.hid fun j hj => by omega⟩
    have := Seen.made (w.alloc (.cells #[.int .i64 sz, .int .i64 st, .slice a n cap] 30))
    rwa [World.size_alloc] at this
  case round =>
    obtain ⟨k, hk, rfl, hG, hB, hS, HV⟩ := hrel
    have HG := Lib.hid hG
    have HBX := Lib.hid hB
    have HSN := Lib.hid hS
    have hz := hG.size
    have hsz : w.heap.size + 1 < wr.heap.size := hS.lt
    clear hG hB hS
    by_cases hlt : k < n
    · obtain ⟨b, off, rfl, hb, hc⟩ := (HI.out.below HG.out).at HX.out hlt
      obtain ⟨c0, c1, c2, c3, c4, c5, c6⟩ := hc k hlt
      have hcp := Lib.hid (fun (_ : 0 < k) => (hc (k - 1) (by omega)).2.2.2.2.2.2)
      have HT : Hid (eOk es k = (fv (es.getD k e0).1 && !(decide ((es.getD k e0).1 ∈ (es.take k).map (·.1))) && inB (es.getD k e0).2.1 0 30 && inB (es.getD k e0).2.2 0 100000 && (decide (k = 0) || decide ((es.getD (k - 1) e0).2.2 ≤ (es.getD k e0).2.2)))) := Lib.hid rfl
      have hcy0 := hcp
      clear hc hcp
      generalize hE : es.getD k e0 = E at *
      obtain ⟨⟨x0, x1, x2, x3, x4⟩, x5, x6⟩ := E
      have HF : Hid ((es.getD k e0).1 = (x0, x1, x2, x3, x4)) := Lib.hid (by rw [hE])
      clear hE
      dsimp only at c0 c1 c2 c3 c4 c5 c6
      have HE := Lib.hid (Box.new wr 69 [.int .i64 x0, .int .i64 x1, .int .i64 x2, .int .i64 x3, .int .i64 x4, .int .i64 x5, .int .i64 x6])
      obtain ⟨y0, y1, y2, y3, y4, y5, y6, fy⟩ := HE.out.seven
      have a0 := aft_cell y0
      have a1 := aft_cell y1
      have a2 := aft_cell y2
      have a3 := aft_cell y3
      have a4 := aft_cell y4
      have a5 := aft_cell y5
      have a6 := aft_cell y6
      have t2 := aft_cell ((HBX.out.alloc (.cells #[.int .i64 x0, .int .i64 x1, .int .i64 x2, .int .i64 x3, .int .i64 x4, .int .i64 x5, .int .i64 x6] 69)).three).2.2.1
      clear y0 y1 y2 y3 y4 y5 y6 fy
      have hz2 : w.heap.size ≤ (wr.alloc (.cells #[.int .i64 x0, .int .i64 x1, .int .i64 x2, .int .i64 x3, .int .i64 x4, .int .i64 x5, .int .i64 x6] 69)).heap.size := by simp; omega
      have HG2 := Lib.hid (HG.out.alloc hz (.cells #[.int .i64 x0, .int .i64 x1, .int .i64 x2, .int .i64 x3, .int .i64 x4, .int .i64 x5, .int .i64 x6] 69))
      have HSN2 := Lib.hid (HSN.out.kept (World.grownBy_alloc _ (.cells #[.int .i64 x0, .int .i64 x1, .int .i64 x2, .int .i64 x3, .int .i64 x4, .int .i64 x5, .int .i64 x6] 69) none) (by simp))
      cases h5 : fv (x0, x1, x2, x3, x4)
      · have HBad : Hid (eOk es k = false) := Lib.hid (by rw [HT.out]; simp [h5])
        go_wp2
        have HR := Lib.hid (tv_not (sz := sz) (st := st) (es := es) (k := k) (by have := HX.out; omega) HBad.out)
        refine wp_region_quietC (by kernel_rfl) (by kernel_rfl) ?_
        repeat (go_big_quiet_step ((first
          | (go_at_call 62; exact aft_call (c_FlowValid (x0, x1, x2, x3, x4) _))
          | (go_at_call 63; exact aft_same (q_in _ _ _ _))
          | (go_at_call 64; exact aft_same (q_isTime _ _)))))
        refine wpQuiet_nil ?_
        rintro _ ⟨⟨w6, hb6⟩, rfl⟩
        have HB6 := Lib.hid (Below.step HG2.out hb6 hz2)
        clear hb6
        go_wp2
        go_ret
        exact ⟨ret_bool HR.out.symm, HB6.out⟩
      have hfv := Lib.hid h5
      have HLK := Lib.hid (fun (m : Aft (wr.alloc (.cells #[.int .i64 x0, .int .i64 x1, .int .i64 x2, .int .i64 x3, .int .i64 x4, .int .i64 x5, .int .i64 x6] 69))) => (HSN2.out.below m.le).look hfv.out)
      by_cases h6 : (x0, x1, x2, x3, x4) ∈ (es.take k).map (·.1)
      · have hlk : ∀ m : Aft (wr.alloc (.cells #[.int .i64 x0, .int .i64 x1, .int .i64 x2, .int .i64 x3, .int .i64 x4, .int .i64 x5, .int .i64 x6] 69)), (Instr.lookup 91 (.map (some (w.heap.size + 1))) (.agg #[.int .i64 x0, .int .i64 x1, .int .i64 x2, .int .i64 x3, .int .i64 x4]) false).run Try.prog m.W = .ok (.bool true) m.W := fun m => by
          have := HLK.out m
          rw [decide_eq_true h6] at this
          exact this
        have HBad : Hid (eOk es k = false) := Lib.hid (by rw [HT.out]; simp only [decide_eq_true h6]; simp)
        clear h6
        go_wp2
        have HR := Lib.hid (tv_not (sz := sz) (st := st) (es := es) (k := k) (by have := HX.out; omega) HBad.out)
        refine wp_region_quietC (by kernel_rfl) (by kernel_rfl) ?_
        repeat (go_big_quiet_step ((first
          | (go_at_call 62; exact aft_call (c_FlowValid (x0, x1, x2, x3, x4) _))
          | (go_at_call 63; exact aft_same (q_in _ _ _ _))
          | (go_at_call 64; exact aft_same (q_isTime _ _)))))
        refine wpQuiet_nil ?_
        rintro _ ⟨⟨w6, hb6⟩, rfl⟩
        have HB6 := Lib.hid (Below.step HG2.out hb6 hz2)
        clear hb6
        go_wp2
        go_ret
        exact ⟨ret_bool HR.out.symm, HB6.out⟩
      have hlk : ∀ m : Aft (wr.alloc (.cells #[.int .i64 x0, .int .i64 x1, .int .i64 x2, .int .i64 x3, .int .i64 x4, .int .i64 x5, .int .i64 x6] 69)), (Instr.lookup 91 (.map (some (w.heap.size + 1))) (.agg #[.int .i64 x0, .int .i64 x1, .int .i64 x2, .int .i64 x3, .int .i64 x4]) false).run Try.prog m.W = .ok (.bool false) m.W := fun m => by
        have := HLK.out m
        rw [decide_eq_false h6] at this
        exact this
      have HT2 : Hid (eOk es k = (inB x5 0 30 && inB x6 0 100000 && (decide (k = 0) || decide ((es.getD (k - 1) e0).2.2 ≤ x6)))) := Lib.hid (by rw [HT.out]; simp only [decide_eq_false h6, h5]; simp)
      clear h6 HT HLK
      cases h7 : inB x5 0 30
      · have HBad : Hid (eOk es k = false) := Lib.hid (by rw [HT2.out, h7]; rfl)
        go_wp2
        have HR := Lib.hid (tv_not (sz := sz) (st := st) (es := es) (k := k) (by have := HX.out; omega) HBad.out)
        refine wp_region_quietC (by kernel_rfl) (by kernel_rfl) ?_
        repeat (go_big_quiet_step ((first
          | (go_at_call 62; exact aft_call (c_FlowValid (x0, x1, x2, x3, x4) _))
          | (go_at_call 63; exact aft_same (q_in _ _ _ _))
          | (go_at_call 64; exact aft_same (q_isTime _ _)))))
        refine wpQuiet_nil ?_
        rintro _ ⟨⟨w6, hb6⟩, rfl⟩
        have HB6 := Lib.hid (Below.step HG2.out hb6 hz2)
        clear hb6
        go_wp2
        go_ret
        exact ⟨ret_bool HR.out.symm, HB6.out⟩
      cases h8 : inB x6 0 100000
      · have HBad : Hid (eOk es k = false) := Lib.hid (by rw [HT2.out, h7, h8]; rfl)
        go_wp2
        have HR := Lib.hid (tv_not (sz := sz) (st := st) (es := es) (k := k) (by have := HX.out; omega) HBad.out)
        refine wp_region_quietC (by kernel_rfl) (by kernel_rfl) ?_
        repeat (go_big_quiet_step ((first
          | (go_at_call 62; exact aft_call (c_FlowValid (x0, x1, x2, x3, x4) _))
          | (go_at_call 63; exact aft_same (q_in _ _ _ _))
          | (go_at_call 64; exact aft_same (q_isTime _ _)))))
        refine wpQuiet_nil ?_
        rintro _ ⟨⟨w6, hb6⟩, rfl⟩
        have HB6 := Lib.hid (Below.step HG2.out hb6 hz2)
        clear hb6
        go_wp2
        go_ret
        exact ⟨ret_bool HR.out.symm, HB6.out⟩
      by_cases hk0 : k = 0
      · have HGood : Hid (eOk es k = true) := Lib.hid (by rw [HT2.out, h7, h8, decide_eq_true hk0]; rfl)
        have hk1 : decide (0 < k) = false := by simp; omega
        clear hk0 HT2
        go_wp2
        refine wp_region_quietC (by kernel_rfl) (by kernel_rfl) ?_
        repeat (go_big_quiet_step ((first
          | (go_at_call 62; exact aft_call (c_FlowValid (x0, x1, x2, x3, x4) _))
          | (go_at_call 63; exact aft_same (q_in _ _ _ _))
          | (go_at_call 64; exact aft_same (q_isTime _ _)))))
        refine wpQuiet_nil ?_
        rintro _ ⟨⟨w6, hb6⟩, rfl⟩
        have HB6 := Lib.hid hb6
        obtain ⟨v0, v1, v2, v3, v4, v5, v6, fv6⟩ := (HE.out.keep HB6.out).seven
        have HBX6 := Lib.hid ((HBX.out.alloc _).keep HB6.out)
        have HSN6 := Lib.hid ((HSN.out.kept (World.grownBy_alloc _ _ none) (by simp)).below HB6.out)
        have hlt6 := HSN6.out.lt
        clear hb6
        go_wp2_with (at_mapUpdate; refine wpl_seen _ rfl _ _ _ rfl (w.heap.size + 1) k _ rfl HSN6.out (by unfold maxLen; omega) (x0, x1, x2, x3, x4) hfv.out rfl rfl ?_)
        intro w7 hs7 hg7
        have HS7 := Lib.hid hs7
        have HG7 := Lib.hid hg7
        clear hs7 hg7
        go_wp2
        go_roundw
        case rel =>
          refine ⟨k + 1, by omega, by go_num, ?_, ?_, ?_, Lib.hid fun j hj => ?_⟩
          · exact below_row (Below.step HG2.out HB6.out hz2) HG7.out (by omega)
          · exact HBX6.out.kept HG7.out (by simp)
          · rw [take_flow HX.out hlt, HF.out, List.map_take]; exact HS7.out
          · by_cases hjk : j = k
            · subst hjk; exact HGood.out
            · exact HV.out j (by omega)
        case measure => simp [intOf]; omega
      have hk1 : decide (0 < k) = true := by simp; omega
      have hcy := hcy0.out (by omega)
      generalize (es.getD (k - 1) e0).2.2 = M at *
      have hcy2 := aft_cell (keep hcy (.cells #[.int .i64 x0, .int .i64 x1, .int .i64 x2, .int .i64 x3, .int .i64 x4, .int .i64 x5, .int .i64 x6] 69))
      have hi1 : IntKind.i64.wrap ((k : Int) - 1) = (k : Int) - 1 := IntWalk.i64_in _ (by omega)
      have hi2 : ((k : Int) - 1).toNat = k - 1 := by omega
      have hi3 : 0 ≤ (k : Int) - 1 := by omega
      have hi4 : (k : Int) - 1 < (n : Int) := by omega
      clear hcy
      by_cases hle : M ≤ x6
      · have HGood : Hid (eOk es k = true) := Lib.hid (by rw [HT2.out, h7, h8, decide_eq_true hle]; simp)
        have hle2 : decide (x6 < M) = false := by simp; omega
        clear hle HT2
        go_wp2
        refine wp_region_quietC (by kernel_rfl) (by kernel_rfl) ?_
        repeat (go_big_quiet_step ((first
          | (go_at_call 62; exact aft_call (c_FlowValid (x0, x1, x2, x3, x4) _))
          | (go_at_call 63; exact aft_same (q_in _ _ _ _))
          | (go_at_call 64; exact aft_same (q_isTime _ _)))))
        refine wpQuiet_nil ?_
        rintro _ ⟨⟨w6, hb6⟩, rfl⟩
        have HB6 := Lib.hid hb6
        obtain ⟨v0, v1, v2, v3, v4, v5, v6, fv6⟩ := (HE.out.keep HB6.out).seven
        have HBX6 := Lib.hid ((HBX.out.alloc _).keep HB6.out)
        have HSN6 := Lib.hid ((HSN.out.kept (World.grownBy_alloc _ _ none) (by simp)).below HB6.out)
        have hlt6 := HSN6.out.lt
        clear hb6
        go_wp2_with (at_mapUpdate; refine wpl_seen _ rfl _ _ _ rfl (w.heap.size + 1) k _ rfl HSN6.out (by unfold maxLen; omega) (x0, x1, x2, x3, x4) hfv.out rfl rfl ?_)
        intro w7 hs7 hg7
        have HS7 := Lib.hid hs7
        have HG7 := Lib.hid hg7
        clear hs7 hg7
        go_wp2
        go_roundw
        case rel =>
          refine ⟨k + 1, by omega, by go_num, ?_, ?_, ?_, Lib.hid fun j hj => ?_⟩
          · exact below_row (Below.step HG2.out HB6.out hz2) HG7.out (by omega)
          · exact HBX6.out.kept HG7.out (by simp)
          · rw [take_flow HX.out hlt, HF.out, List.map_take]; exact HS7.out
          · by_cases hjk : j = k
            · subst hjk; exact HGood.out
            · exact HV.out j (by omega)
        case measure => simp [intOf]; omega
      · have HBad : Hid (eOk es k = false) := Lib.hid (by rw [HT2.out, h7, h8, decide_eq_false hk0, decide_eq_false (show ¬ M ≤ x6 by omega)]; rfl)
        have hle2 : decide (x6 < M) = true := by simp; omega
        clear hle HT2
        go_wp2
        have HR := Lib.hid (tv_not (sz := sz) (st := st) (es := es) (k := k) (by have := HX.out; omega) HBad.out)
        refine wp_region_quietC (by kernel_rfl) (by kernel_rfl) ?_
        repeat (go_big_quiet_step ((first
          | (go_at_call 62; exact aft_call (c_FlowValid (x0, x1, x2, x3, x4) _))
          | (go_at_call 63; exact aft_same (q_in _ _ _ _))
          | (go_at_call 64; exact aft_same (q_isTime _ _)))))
        refine wpQuiet_nil ?_
        rintro _ ⟨⟨w6, hb6⟩, rfl⟩
        have HB6 := Lib.hid (Below.step HG2.out hb6 hz2)
        clear hb6
        go_wp2
        go_ret
        exact ⟨ret_bool HR.out.symm, HB6.out⟩
    · obtain rfl : k = n := by omega
      have HR := Lib.hid (tv_of (sz := sz) (st := st) (es := es) (by rw [HX.out]; exact HV.out))
      go_wp2
      go_ret
      exact ⟨ret_bool (by rw [HR.out, HQ2.out]), HG.out⟩
end Go.Proofs.Ytdkdfehlmphikaa
