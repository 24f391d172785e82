/- EventsValid of the program and of the reference. No condition but lists of at most 2^20 events. -/
import Derived.Test.YtdkdfehlmphikaaEvl
import Derived.Test.YtdkdfehlmphikaaMG
import Derived.Test.YtdkdfehlmphikaaMC
namespace Go.Proofs.Ytdkdfehlmphikaa
open Go.RowKit
set_option maxRecDepth 100000 in
set_option maxHeartbeats 4000000 in
theorem c_EventsValid (a : Option Addr) (n cap : Nat) (vs : List V6) (w : World) (hxs : vs.length = n) (hn : n ≤ 1048576) (h : Evs w a vs) :
    Calls Try.prog 58 #[.slice a n cap] w fun e w' => e = .returned (.bool (evB vs)) ∧ Below w.heap.size w w' := by
  have HX := Lib.hid hxs
  have HI := Lib.hid h
  clear h hxs
  go_enter Try.func58, Try.ntmps58
  go_wp2
  go_loopw [7] (fun i wr => ∃ (k : Nat), k ≤ n ∧ i = .int .i64 k ∧ Below w.heap.size w wr ∧ Hid (∀ j, j < k → vOk vs j = true)) (fun i _ => n - (intOf i).toNat)
  case atStart => exact ⟨0, Nat.zero_le _, rfl, Below.refl _ _, Lib.hid fun j hj => by omega⟩
  case round =>
    obtain ⟨k, hk, rfl, hG, HV⟩ := hrel
    have HG := Lib.hid hG
    have hz := hG.size
    clear hG
    by_cases hlt : k < n
    · obtain ⟨b, off, rfl, hb, hc⟩ := (HI.out.below HG.out).at HX.out hlt
      obtain ⟨c0, c1, c2, c3, c4, c5⟩ := hc k hlt
      have hcp := Lib.hid (fun (_ : 0 < k) => (hc (k - 1) (by omega)).1)
      have HT : Hid (vOk vs k = (inB (vs.getD k v0).1 0 100000 && fv (vs.getD k v0).2 && (decide (k = 0) || !decide ((vs.getD k v0).1 < (vs.getD (k - 1) v0).1)))) := Lib.hid rfl
      clear hc
      generalize hE : vs.getD k v0 = E at *
      obtain ⟨x0, x1, x2, x3, x4, x5⟩ := E
      clear hE
      dsimp only at c0 c1 c2 c3 c4 c5
      have HE := Lib.hid (Box.new wr 39 [.int .i64 x0, .int .i64 x1, .int .i64 x2, .int .i64 x3, .int .i64 x4, .int .i64 x5])
      obtain ⟨y0, y1, y2, y3, y4, y5, fy⟩ := HE.out.six
      have a0 := aft_cell y0
      have a1 := aft_cell y1
      have a2 := aft_cell y2
      have a3 := aft_cell y3
      have a4 := aft_cell y4
      have a5 := aft_cell y5
      clear y0 y1 y2 y3 y4 y5 fy
      have hz2 : w.heap.size ≤ (wr.alloc (.cells #[.int .i64 x0, .int .i64 x1, .int .i64 x2, .int .i64 x3, .int .i64 x4, .int .i64 x5] 39)).heap.size := by simp; omega
      have HG2 := Lib.hid (HG.out.alloc hz (.cells #[.int .i64 x0, .int .i64 x1, .int .i64 x2, .int .i64 x3, .int .i64 x4, .int .i64 x5] 39))
      cases h7 : inB x0 0 100000
      · have HBad : Hid (vOk vs k = false) := Lib.hid (by rw [HT.out]; simp [h7])
        go_wp2
        have HR := Lib.hid (ev_not (vs := vs) (k := k) (by have := HX.out; omega) HBad.out)
        refine wp_region_quietC (by kernel_rfl) (by kernel_rfl) ?_
        repeat (go_big_quiet_step ((first
          | (go_at_call 62; exact aft_call (c_FlowValid (x1, x2, x3, x4, x5) _))
          | (go_at_call 64; exact aft_same (q_isTime _ _)))))
        refine wpQuiet_nil ?_
        rintro _ ⟨⟨w6, hb6⟩, rfl⟩
        have HB6 := Lib.hid (Below.step HG2.out hb6 hz2)
        clear hb6
        go_wp2
        go_ret
        exact ⟨ret_bool HR.out.symm, HB6.out⟩
      cases h5 : fv (x1, x2, x3, x4, x5)
      · have HBad : Hid (vOk vs k = false) := Lib.hid (by rw [HT.out]; simp [h5])
        go_wp2
        have HR := Lib.hid (ev_not (vs := vs) (k := k) (by have := HX.out; omega) HBad.out)
        refine wp_region_quietC (by kernel_rfl) (by kernel_rfl) ?_
        repeat (go_big_quiet_step ((first
          | (go_at_call 62; exact aft_call (c_FlowValid (x1, x2, x3, x4, x5) _))
          | (go_at_call 64; exact aft_same (q_isTime _ _)))))
        refine wpQuiet_nil ?_
        rintro _ ⟨⟨w6, hb6⟩, rfl⟩
        have HB6 := Lib.hid (Below.step HG2.out hb6 hz2)
        clear hb6
        go_wp2
        go_ret
        exact ⟨ret_bool HR.out.symm, HB6.out⟩
      have HT2 : Hid (vOk vs k = (decide (k = 0) || !decide (x0 < (vs.getD (k - 1) v0).1))) := Lib.hid (by rw [HT.out]; simp only [h7, h5]; simp)
      clear HT
      by_cases hk0 : k = 0
      · have HGood : Hid (vOk vs k = true) := Lib.hid (by rw [HT2.out, decide_eq_true hk0]; rfl)
        have hk1 : decide (0 < k) = false := by simp; omega
        clear hk0 HT2
        go_wp2
        refine wp_region_quietC (by kernel_rfl) (by kernel_rfl) ?_
        repeat (go_big_quiet_step ((first
          | (go_at_call 62; exact aft_call (c_FlowValid (x1, x2, x3, x4, x5) _))
          | (go_at_call 64; exact aft_same (q_isTime _ _)))))
        refine wpQuiet_nil ?_
        rintro _ ⟨⟨w6, hb6⟩, rfl⟩
        have HB6 := Lib.hid (Below.step HG2.out hb6 hz2)
        clear hb6
        go_wp2
        go_roundw
        case rel =>
          refine ⟨k + 1, by omega, by go_num, HB6.out, Lib.hid fun j hj => ?_⟩
          by_cases hjk : j = k
          · subst hjk; exact HGood.out
          · exact HV.out j (by omega)
        case measure => simp [intOf]; omega
      have hk1 : decide (0 < k) = true := by simp; omega
      have hcy := hcp.out (by omega)
      generalize (vs.getD (k - 1) v0).1 = M at *
      have hcy2 := aft_cell (keep hcy (.cells #[.int .i64 x0, .int .i64 x1, .int .i64 x2, .int .i64 x3, .int .i64 x4, .int .i64 x5] 39))
      have hi1 : IntKind.i64.wrap ((k : Int) - 1) = (k : Int) - 1 := IntWalk.i64_in _ (by omega)
      have hi2 : ((k : Int) - 1).toNat = k - 1 := by omega
      have hi3 : 0 ≤ (k : Int) - 1 := by omega
      have hi4 : (k : Int) - 1 < (n : Int) := by omega
      clear hcy
      by_cases hle : x0 < M
      · have HBad : Hid (vOk vs k = false) := Lib.hid (by rw [HT2.out, decide_eq_false hk0, decide_eq_true hle]; rfl)
        have hle2 : decide (x0 < M) = true := by simp; omega
        clear hle HT2
        go_wp2
        have HR := Lib.hid (ev_not (vs := vs) (k := k) (by have := HX.out; omega) HBad.out)
        refine wp_region_quietC (by kernel_rfl) (by kernel_rfl) ?_
        repeat (go_big_quiet_step ((first
          | (go_at_call 62; exact aft_call (c_FlowValid (x1, x2, x3, x4, x5) _))
          | (go_at_call 64; exact aft_same (q_isTime _ _)))))
        refine wpQuiet_nil ?_
        rintro _ ⟨⟨w6, hb6⟩, rfl⟩
        have HB6 := Lib.hid (Below.step HG2.out hb6 hz2)
        clear hb6
        go_wp2
        go_ret
        exact ⟨ret_bool HR.out.symm, HB6.out⟩
      · have HGood : Hid (vOk vs k = true) := Lib.hid (by rw [HT2.out, decide_eq_false hle]; simp)
        have hle2 : decide (x0 < M) = false := by simp; omega
        clear hle HT2
        go_wp2
        refine wp_region_quietC (by kernel_rfl) (by kernel_rfl) ?_
        repeat (go_big_quiet_step ((first
          | (go_at_call 62; exact aft_call (c_FlowValid (x1, x2, x3, x4, x5) _))
          | (go_at_call 64; exact aft_same (q_isTime _ _)))))
        refine wpQuiet_nil ?_
        rintro _ ⟨⟨w6, hb6⟩, rfl⟩
        have HB6 := Lib.hid (Below.step HG2.out hb6 hz2)
        clear hb6
        go_wp2
        go_roundw
        case rel =>
          refine ⟨k + 1, by omega, by go_num, HB6.out, Lib.hid fun j hj => ?_⟩
          by_cases hjk : j = k
          · subst hjk; exact HGood.out
          · exact HV.out j (by omega)
        case measure => simp [intOf]; omega
    · obtain rfl : k = n := by omega
      have HR := Lib.hid (ev_of (vs := vs) (by rw [HX.out]; exact HV.out))
      rw [HX.out] at HR
      by_cases h3 : k ≤ 40
      · have h3' : (k : Int) ≤ 40 := by omega
        go_wp2
        go_ret
        exact ⟨ret_bool (by rw [HR.out, decide_eq_true h3]), HG.out⟩
      · have h3' : ¬ (k : Int) ≤ 40 := by omega
        go_wp2
        go_ret
        exact ⟨ret_bool (by rw [HR.out, decide_eq_false h3]), HG.out⟩
set_option maxRecDepth 100000 in
set_option maxHeartbeats 4000000 in
theorem s_EventsValid (a : Option Addr) (n cap : Nat) (vs : List V6) (w : World) (hxs : vs.length = n) (hn : n ≤ 1048576) (h : Evs w a vs) :
    Calls Try.prog 61 #[.slice a n cap] w fun e w' => e = .returned (.bool (evB vs)) ∧ Below w.heap.size w w' := by
  have HX := Lib.hid hxs
  have HI := Lib.hid h
  clear h hxs
  go_enter Try.func61, Try.ntmps61
  go_wp2
  go_loopw [3] (fun i wr => ∃ (k : Nat), k ≤ n ∧ i = .int .i64 k ∧ Below w.heap.size w wr ∧ Hid (∀ j, j < k → vOk vs j = true)) (fun i _ => n - (intOf i).toNat)
  case atStart => exact ⟨0, Nat.zero_le _, rfl, Below.refl _ _, Lib.hid fun j hj => by omega⟩
  case round =>
    obtain ⟨k, hk, rfl, hG, HV⟩ := hrel
    have HG := Lib.hid hG
    have hz := hG.size
    clear hG
    by_cases hlt : k < n
    · obtain ⟨b, off, rfl, hb, hc⟩ := (HI.out.below HG.out).at HX.out hlt
      obtain ⟨c0, c1, c2, c3, c4, c5⟩ := hc k hlt
      have hcp := Lib.hid (fun (_ : 0 < k) => (hc (k - 1) (by omega)).1)
      have HT : Hid (vOk vs k = (inB (vs.getD k v0).1 0 100000 && fv (vs.getD k v0).2 && (decide (k = 0) || !decide ((vs.getD k v0).1 < (vs.getD (k - 1) v0).1)))) := Lib.hid rfl
      clear hc
      generalize hE : vs.getD k v0 = E at *
      obtain ⟨x0, x1, x2, x3, x4, x5⟩ := E
      clear hE
      dsimp only at c0 c1 c2 c3 c4 c5
      have a0 := aft_cell c0
      have a1 := aft_cell c1
      have a2 := aft_cell c2
      have a3 := aft_cell c3
      have a4 := aft_cell c4
      have a5 := aft_cell c5
      cases h5 : fv (x1, x2, x3, x4, x5)
      · have HBad : Hid (vOk vs k = false) := Lib.hid (by rw [HT.out]; simp [h5])
        go_wp2
        have HR := Lib.hid (ev_not (vs := vs) (k := k) (by have := HX.out; omega) HBad.out)
        refine wp_region_quietC (by kernel_rfl) (by kernel_rfl) ?_
        repeat (go_big_quiet_step ((first
          | (go_at_call 67; exact aft_call (s_FlowValid (x1, x2, x3, x4, x5) _))
          | (go_at_call 87; exact aft_same (q_l1In' _ _ _ _)))))
        refine wpQuiet_nil ?_
        rintro _ ⟨⟨w6, hb6⟩, rfl⟩
        have HB6 := Lib.hid (Below.step HG.out hb6 hz)
        clear hb6
        go_wp2
        go_ret
        exact ⟨ret_bool HR.out.symm, HB6.out⟩
      cases h7 : inB x0 0 100000
      · have HBad : Hid (vOk vs k = false) := Lib.hid (by rw [HT.out]; simp [h7])
        go_wp2
        have HR := Lib.hid (ev_not (vs := vs) (k := k) (by have := HX.out; omega) HBad.out)
        refine wp_region_quietC (by kernel_rfl) (by kernel_rfl) ?_
        repeat (go_big_quiet_step ((first
          | (go_at_call 67; exact aft_call (s_FlowValid (x1, x2, x3, x4, x5) _))
          | (go_at_call 87; exact aft_same (q_l1In' _ _ _ _)))))
        refine wpQuiet_nil ?_
        rintro _ ⟨⟨w6, hb6⟩, rfl⟩
        have HB6 := Lib.hid (Below.step HG.out hb6 hz)
        clear hb6
        go_wp2
        go_ret
        exact ⟨ret_bool HR.out.symm, HB6.out⟩
      have HT2 : Hid (vOk vs k = (decide (k = 0) || !decide (x0 < (vs.getD (k - 1) v0).1))) := Lib.hid (by rw [HT.out]; simp only [h7, h5]; simp)
      clear HT
      by_cases hk0 : k = 0
      · have HGood : Hid (vOk vs k = true) := Lib.hid (by rw [HT2.out, decide_eq_true hk0]; rfl)
        have hk1 : decide (0 < k) = false := by simp; omega
        clear hk0 HT2
        go_wp2
        refine wp_region_quietC (by kernel_rfl) (by kernel_rfl) ?_
        repeat (go_big_quiet_step ((first
          | (go_at_call 67; exact aft_call (s_FlowValid (x1, x2, x3, x4, x5) _))
          | (go_at_call 87; exact aft_same (q_l1In' _ _ _ _)))))
        refine wpQuiet_nil ?_
        rintro _ ⟨⟨w6, hb6⟩, rfl⟩
        have HB6 := Lib.hid (Below.step HG.out hb6 hz)
        clear hb6
        go_wp2
        go_roundw
        case rel =>
          refine ⟨k + 1, by omega, by go_num, HB6.out, Lib.hid fun j hj => ?_⟩
          by_cases hjk : j = k
          · subst hjk; exact HGood.out
          · exact HV.out j (by omega)
        case measure => simp [intOf]; omega
      have hk1 : decide (0 < k) = true := by simp; omega
      have hcy := hcp.out (by omega)
      generalize (vs.getD (k - 1) v0).1 = M at *
      have hcy2 := aft_cell hcy
      have hi1 : IntKind.i64.wrap ((k : Int) - 1) = (k : Int) - 1 := IntWalk.i64_in _ (by omega)
      have hi2 : ((k : Int) - 1).toNat = k - 1 := by omega
      have hi3 : 0 ≤ (k : Int) - 1 := by omega
      have hi4 : (k : Int) - 1 < (n : Int) := by omega
      clear hcy
      by_cases hle : x0 < M
      · have HBad : Hid (vOk vs k = false) := Lib.hid (by rw [HT2.out, decide_eq_false hk0, decide_eq_true hle]; rfl)
        have hle2 : decide (x0 < M) = true := by simp; omega
        clear hle HT2
        go_wp2
        have HR := Lib.hid (ev_not (vs := vs) (k := k) (by have := HX.out; omega) HBad.out)
        refine wp_region_quietC (by kernel_rfl) (by kernel_rfl) ?_
        repeat (go_big_quiet_step ((first
          | (go_at_call 67; exact aft_call (s_FlowValid (x1, x2, x3, x4, x5) _))
          | (go_at_call 87; exact aft_same (q_l1In' _ _ _ _)))))
        refine wpQuiet_nil ?_
        rintro _ ⟨⟨w6, hb6⟩, rfl⟩
        have HB6 := Lib.hid (Below.step HG.out hb6 hz)
        clear hb6
        go_wp2
        go_ret
        exact ⟨ret_bool HR.out.symm, HB6.out⟩
      · have HGood : Hid (vOk vs k = true) := Lib.hid (by rw [HT2.out, decide_eq_false hle]; simp)
        have hle2 : decide (x0 < M) = false := by simp; omega
        clear hle HT2
        go_wp2
        refine wp_region_quietC (by kernel_rfl) (by kernel_rfl) ?_
        repeat (go_big_quiet_step ((first
          | (go_at_call 67; exact aft_call (s_FlowValid (x1, x2, x3, x4, x5) _))
          | (go_at_call 87; exact aft_same (q_l1In' _ _ _ _)))))
        refine wpQuiet_nil ?_
        rintro _ ⟨⟨w6, hb6⟩, rfl⟩
        have HB6 := Lib.hid (Below.step HG.out hb6 hz)
        clear hb6
        go_wp2
        go_roundw
        case rel =>
          refine ⟨k + 1, by omega, by go_num, HB6.out, Lib.hid fun j hj => ?_⟩
          by_cases hjk : j = k
          · subst hjk; exact HGood.out
          · exact HV.out j (by omega)
        case measure => simp [intOf]; omega
    · obtain rfl : k = n := by omega
      have HR := Lib.hid (ev_of (vs := vs) (by rw [HX.out]; exact HV.out))
      rw [HX.out] at HR
      by_cases h3 : k ≤ 40
      · have h3' : (k : Int) ≤ 40 := by omega
        go_wp2
        go_ret
        exact ⟨ret_bool (by rw [HR.out, decide_eq_true h3]), HG.out⟩
      · have h3' : ¬ (k : Int) ≤ 40 := by omega
        go_wp2
        go_ret
        exact ⟨ret_bool (by rw [HR.out, decide_eq_false h3]), HG.out⟩
end Go.Proofs.Ytdkdfehlmphikaa
