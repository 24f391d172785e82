/- Contract of the reference's HistOf. No condition but a list of at most 2^20 numbers. -/
import Derived.Test.YtdgfngcfodccmaaHistC
import Derived.StillTail
import Derived.StillTailTactics
namespace Go.Proofs.Ytdgfngcfodccmaa
open Go.RowKit
theorem grownBy_dr {w w' : World} {r : Option Nat} (h : w.grownBy w' r) : w.grownBy w'.drew r := ⟨h.os, h.tape, h.output, h.size, h.block⟩
theorem grownBy_al {w w' : World} {r : Option Nat} (h : w.grownBy w' r) (o : Obj) : w.grownBy (w'.alloc o) r :=
  ⟨h.os, h.tape, h.output, Nat.le_trans h.size (by simp), fun k hk hr => (Below.heap_alloc w' o k (Nat.lt_of_lt_of_le hk h.size)).trans (h.block k hk hr)⟩
set_option maxHeartbeats 1000000 in
theorem s_HistOf (a : Option Addr) (n cap : Nat) (xs : List Int) (w : World) (hxs : xs.length = n) (hn : n ≤ 1048576) (h : Ints w a xs) (hwf : ∀ j, j < xs.length → (xs.getD j 0) ≤ 9223372036854775807) :
    Calls Try.prog 25 #[.slice a n cap] w (RetNew w (histV xs)) := by
  obtain ⟨i0, hi, hz0, hz1, hz2⟩ := info_parts infoInt8'
  have HX := Lib.hid hxs
  have HI := Lib.hid h
  have HW := Lib.hid hwf
  clear h hxs hwf
  go_enter Try.func25, Try.ntmps25
  go_wp2_with (at_make; refine wpList_make_full _ rfl _ _ 32 rfl w.heap.size 3 i0 (.int .i64 0) 1 Try.underlying32 hi hz0 hz1 .i64 .i64 _ _ 13 rfl rfl rfl rfl ?c1 ?c2 ?c3 ?c4)
  case c1 => rw [hz2]; omega
  case c2 => unfold maxLen; omega
  case c3 => exact Nat.le_refl _
  case c4 =>
    intro w1 hown hgr
    rw [zeros13] at hown
    have HO := Lib.hid hown
    have HG := Lib.hid hgr
    clear hown hgr
    go_wp2
    go_loopw [4] (fun i wr => ∃ (k : Nat), k ≤ n ∧ i = .int .i64 k ∧ (0 < k → n ≤ 60) ∧ (∀ j, j < k → 0 ≤ xs.getD j 0) ∧ wr.ownsRow w.heap.size 3 1 (.slice (some ⟨w.heap.size, 0, none⟩) 13 13) 13 ((cntOf xs k).map (Value.int .i64)) ∧ w.grownBy wr none) (fun i _ => n - (intOf i).toNat)
    case atStart => exact ⟨0, Nat.zero_le _, rfl, fun h => by omega, fun j hj => by omega, by rw [cntOf_zero]; exact HO.out, HG.out⟩
    case round =>
      obtain ⟨k, hk, rfl, h60, hval, hown, hgr⟩ := hrel
      have H6 := Lib.hid h60
      have HV := Lib.hid hval
      have HO2 := Lib.hid hown
      have HG2 := Lib.hid hgr
      have hx := HX.out
      clear hown hgr hval HO HG h60
      by_cases hlt : k < n
      · have hsrc := HI.out.below (grown_below HG2.out)
        rcases hsrc with h0 | ⟨b, off, ha, hb, hcell⟩
        · rw [h0] at hx; simp at hx; omega
        · have hc1 := hcell k (by omega)
          subst ha
          clear hcell
          by_cases hneg : xs.getD k 0 < 0
          · have hv : histV xs = [] := by simp [histV, okTimes_not (by omega) hneg]
            have HV' := Lib.hid hv
            clear hv
            generalize xs.getD k 0 = x at *
            go_wp2
            go_ret
            rw [HV'.out]
            exact ⟨some ⟨wr.heap.size, 0, none⟩, 0, rfl, ⟨rfl, .inr ⟨wr.heap.size, 0, #[], rfl, HG2.out.size, heap_alloc_new wr _, Nat.le_refl _, by unfold maxLen; omega, rfl, rfl⟩⟩, grownBy_al HG2.out _⟩
          · by_cases h61 : 60 < n
            · have hv : histV xs = [] := by
                have : okTimes xs = false := by simp [okTimes, show ¬ xs.length ≤ 60 by omega]
                simp [histV, this]
              have HV' := Lib.hid hv
              have h61' : (60 : Int) < (n : Int) := by omega
              clear hv
              generalize xs.getD k 0 = x at *
              go_wp2
              go_ret
              rw [HV'.out]
              exact ⟨some ⟨wr.heap.size, 0, none⟩, 0, rfl, ⟨rfl, .inr ⟨wr.heap.size, 0, #[], rfl, HG2.out.size, heap_alloc_new wr _, Nat.le_refl _, by unfold maxLen; omega, rfl, rfl⟩⟩, grownBy_al HG2.out _⟩
            · have h61' : (n : Int) ≤ 60 := by omega
              have hx0 : 0 ≤ xs.getD k 0 := by omega
              have hx1 := HW.out k (by omega)
              obtain ⟨c0, c1⟩ := cls_bd hx0
              have hb := cntOf_bd xs k (cls (xs.getD k 0)).toNat (by omega)
              have hs := cntOf_succ xs k (by omega)
              have hl := cntOf_len xs k
              have hc2 := own_get HO2.out (cls (xs.getD k 0)).toNat (by omega)
              have hc3 := HO2.out.frozenAt (cls (xs.getD k 0)).toNat
              have hst := HO2.out.stored (cls (xs.getD k 0)).toNat (.int .i64 ((cntOf xs k).getD (cls (xs.getD k 0)).toNat 0 + 1))
              have hset : ((cntOf xs k).map (Value.int .i64)).set (cls (xs.getD k 0)).toNat (.int .i64 ((cntOf xs k).getD (cls (xs.getD k 0)).toNat 0 + 1)) = (cntOf xs (k + 1)).map (Value.int .i64) := by
                rw [hs, bump, List.map_set]
              rw [hset] at hst
              have HS := Lib.hid hst
              have HK := Lib.hid (fun W => s_ClassOf (xs.getD k 0) W (by omega) hx1)
              have HV2 : Hid (∀ j, j < k + 1 → 0 ≤ xs.getD j 0) := Lib.hid (fun j hj => by
                by_cases hjk : j = k
                · subst hjk; exact hx0
                · exact HV.out j (by omega))
              clear hst hset hs hl
              obtain ⟨c, hc⟩ := Int.eq_ofNat_of_zero_le c0
              rw [hc] at hc2 hc3 HS HK c1 hb
              simp only [Int.toNat_natCast] at hc2 hc3 HS hb
              generalize (cntOf xs k).getD c 0 = v at *
              clear hc c0 hx1 HV
              generalize xs.getD k 0 = x at *
              have c13 : (c : Int) < 13 := by omega
              have hwv : IntKind.i64.wrap (v + 1) = v + 1 := IntWalk.i64_in _ (by omega)
              go_wp2_with fail
              refine wp_region_still_tail 16 (by kernel_rfl) (by kernel_rfl) ?_
              simp only [List.take_succ_cons, List.take_zero, List.drop_succ_cons, List.drop_zero]
              repeat still_step
              still_call ((HK.out _).mono (by rintro e w' ⟨rfl, rfl⟩; exact ⟨rfl, rfl⟩))
              repeat still_step
              still_call ((HK.out _).mono (by rintro e w' ⟨rfl, rfl⟩; exact ⟨rfl, rfl⟩))
              repeat still_step
              refine wpStill_nil ?_
              go_wp2
              go_roundw
              case rel => exact ⟨k + 1, by omega, by go_num, fun _ => by omega, HV2.out, HS.out.1, grownBy_dr (gb_row HG2.out HS.out.2 (Nat.le_refl _))⟩
              case measure => simp [intOf]; omega
      · go_wp2
        go_ret
        have hkn : k = n := by omega
        subst hkn
        subst hx
        have hok : okTimes xs = true := by
          by_cases hk0 : xs.length = 0
          · exact okTimes_of (by omega) (fun j hj => by omega)
          · exact okTimes_of (H6.out (by omega)) HV.out
        have hv : histV xs = cntOf xs xs.length := by simp [histV, hok]
        rw [hv]
        have hl := cntOf_len xs xs.length
        rw [show (Value.slice (some ⟨w.heap.size, 0, none⟩) 13 13) = Value.slice (some ⟨w.heap.size, 0, none⟩) (cntOf xs xs.length).length 13 from by rw [hl]] at *
        refine ⟨some ⟨w.heap.size, 0, none⟩, 13, rfl, ?_, HG2.out⟩
        have := HO2.out
        rw [hl] at this ⊢
        exact this
end Go.Proofs.Ytdgfngcfodccmaa
