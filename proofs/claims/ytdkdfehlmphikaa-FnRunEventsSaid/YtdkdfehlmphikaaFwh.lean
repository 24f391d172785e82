/- Contracts of FlowHash, of the program and of the reference, and of the reference's HostState. No condition but lists of at most 2^20 hosts. -/
import Derived.Test.YtdkdfehlmphikaaHSt
import Derived.Test.YtdkdfehlmphikaaMB
namespace Go.Proofs.Ytdkdfehlmphikaa
open Go.RowKit
/-- The hash of a flow. -/
def hashV (f : F5) : Int := if fv f then mixV [f.1, f.2.1, f.2.2.1, f.2.2.2.1, f.2.2.2.2] else -1
theorem five_ints (w : World) (y0 y1 y2 y3 y4 : Int) : Ints (w.alloc (.cells #[.int .i64 y0, .int .i64 y1, .int .i64 y2, .int .i64 y3, .int .i64 y4] 3)) (some ⟨w.heap.size, 0, none⟩) [y0, y1, y2, y3, y4] := by
  refine .inr ⟨w.heap.size, 0, rfl, by simp, fun i hi => ?_⟩
  match i, hi with
  | 0, _ => simp [go_sem]
  | 1, _ => simp [go_sem]
  | 2, _ => simp [go_sem]
  | 3, _ => simp [go_sem]
  | 4, _ => simp [go_sem]
set_option maxHeartbeats 1000000 in
theorem c_FlowHash (f : F5) (w : World) : Calls Try.prog 98 #[fvv f] w fun e w' => e = .returned (.int .i64 (hashV f)) ∧ Below w.heap.size w w' := by
  have HR : Hid (hashV f = if fv f then mixV [f.1, f.2.1, f.2.2.1, f.2.2.2.1, f.2.2.2.2] else -1) := Lib.hid rfl
  obtain ⟨y0, y1, y2, y3, y4⟩ := f
  unfold fvv
  obtain ⟨w1, hw1, b1, s1, bf⟩ := head1 w 37 [.int .i64 y0, .int .i64 y1, .int .i64 y2, .int .i64 y3, .int .i64 y4]
  have HW1 := Lib.hid hw1
  have D1 := Lib.hid b1
  have F1 := Lib.hid bf
  clear hw1 b1 bf
  go_enter Try.func98, Try.ntmps98
  go_wp2_with fail
  rw [← HW1.out]
  refine (c_FlowValid (y0, y1, y2, y3, y4) _).mono ?_; rintro e w2 ⟨rfl, b2⟩
  have D2 := Lib.hid (Below.step D1.out b2 (by omega))
  have F2 := Lib.hid (F1.out.keep b2)
  clear b2
  obtain ⟨c0, c1, c2, c3, c4, cf⟩ := F2.out.five
  cases hv : fv (y0, y1, y2, y3, y4)
  · go_wp2
    go_ret
    exact ⟨ret_int (by rw [HR.out, hv]; rfl), D2.out⟩
  · have HV := Lib.hid hv
    clear hv
    go_wp2_with fail
    refine (c_mixN (some ⟨w2.heap.size, 0, none⟩) 5 [y0, y1, y2, y3, y4] _ rfl (by omega) (five_ints w2 y0 y1 y2 y3 y4)).mono ?_; rintro e w3 ⟨rfl, rfl⟩
    have D3 := Lib.hid (D2.out.alloc D2.out.size (.cells #[.int .i64 y0, .int .i64 y1, .int .i64 y2, .int .i64 y3, .int .i64 y4] 3))
    go_wp2
    go_ret
    exact ⟨ret_int (by rw [HR.out, HV.out]; rfl), D3.out⟩
set_option maxHeartbeats 1000000 in
theorem s_FlowHash (f : F5) (w : World) : Calls Try.prog 94 #[fvv f] w fun e w' => e = .returned (.int .i64 (hashV f)) ∧ Below w.heap.size w w' := by
  have HR : Hid (hashV f = if fv f then mixV [f.1, f.2.1, f.2.2.1, f.2.2.2.1, f.2.2.2.2] else -1) := Lib.hid rfl
  obtain ⟨y0, y1, y2, y3, y4⟩ := f
  unfold fvv
  obtain ⟨w1, hw1, b1, s1, bf⟩ := head1 w 37 [.int .i64 y0, .int .i64 y1, .int .i64 y2, .int .i64 y3, .int .i64 y4]
  have HW1 := Lib.hid hw1
  have D1 := Lib.hid b1
  have F1 := Lib.hid bf
  clear hw1 b1 bf
  go_enter Try.func94, Try.ntmps94
  go_wp2_with fail
  rw [← HW1.out]
  refine (s_FlowValid (y0, y1, y2, y3, y4) _).mono ?_; rintro e w2 ⟨rfl, b2⟩
  have D2 := Lib.hid (Below.step D1.out b2 (by omega))
  have F2 := Lib.hid (F1.out.keep b2)
  clear b2
  obtain ⟨c0, c1, c2, c3, c4, cf⟩ := F2.out.five
  cases hv : fv (y0, y1, y2, y3, y4)
  · go_wp2
    go_ret
    exact ⟨ret_int (by rw [HR.out, hv]; rfl), D2.out⟩
  · have HV := Lib.hid hv
    clear hv
    go_wp2_with fail
    refine (s_MixNumbers (some ⟨w2.heap.size, 0, none⟩) 5 5 [y0, y1, y2, y3, y4] _ rfl (by omega) (five_ints w2 y0 y1 y2 y3 y4)).mono ?_; rintro e w3 ⟨rfl, rfl⟩
    have D3 := Lib.hid (D2.out.alloc D2.out.size (.cells #[.int .i64 y0, .int .i64 y1, .int .i64 y2, .int .i64 y3, .int .i64 y4] 3))
    go_wp2
    go_ret
    exact ⟨ret_int (by rw [HR.out, HV.out]; rfl), D3.out⟩
theorem ix_hit {hs : List H3} {num : Int} {k : Nat} (hk : k < hs.length) (h : (hs.getD k (0, 0, 0)).1 = num) (hn : ∀ j, j < k → (hs.getD j (0, 0, 0)).1 ≠ num) : ixOf hs num = k := by
  have : hs.findIdx? (fun h => h.1 == num) = some k := by
    rw [List.findIdx?_eq_some_iff_getElem]
    rw [List.getD_eq_getElem?_getD, List.getElem?_eq_getElem hk] at h
    refine ⟨hk, by simpa using h, fun j hj => ?_⟩
    have := hn j hj
    rw [List.getD_eq_getElem?_getD, List.getElem?_eq_getElem (by omega)] at this
    simpa using this
  rw [ixOf, this]
theorem ix_no {hs : List H3} {num : Int} (hn : ∀ j, j < hs.length → (hs.getD j (0, 0, 0)).1 ≠ num) : ixOf hs num = -1 := by
  have : hs.findIdx? (fun h => h.1 == num) = none := by
    rw [List.findIdx?_eq_none_iff]
    intro x hx
    obtain ⟨j, hj, rfl⟩ := List.getElem_of_mem hx
    have := hn j hj
    rw [List.getD_eq_getElem?_getD, List.getElem?_eq_getElem hj] at this
    simpa using this
  rw [ixOf, this]
set_option maxHeartbeats 1000000 in
theorem s_HostState (a : Option Addr) (n cap : Nat) (hs : List H3) (num : Int) (w : World) (hxs : hs.length = n) (hn : n ≤ 1048576) (h : Hosts w a hs) :
    Calls Try.prog 92 #[.slice a n cap, .int .i64 num] w fun e w' => e = .returned (.int .i64 (stV hs num)) ∧ Below w.heap.size w w' := by
  have HX := Lib.hid hxs
  have HI := Lib.hid h
  clear h hxs
  have HS : Hid (stV hs num = if pv hs && decide (0 ≤ ixOf hs num) then (hs.getD (ixOf hs num).toNat (0, 0, 0)).2.2 else 0) := Lib.hid rfl
  go_enter Try.func92, Try.ntmps92
  go_wp2
  go_loopw [5] (fun i wr => ∃ (k : Nat), k ≤ n ∧ i = .int .i64 k ∧ Below w.heap.size w wr ∧ (k = 0 ∨ pv hs = true) ∧ Hid (∀ j, j < k → (hs.getD j (0, 0, 0)).1 ≠ num)) (fun i _ => n - (intOf i).toNat)
  case atStart => exact ⟨0, Nat.zero_le _, rfl, Below.refl _ _, .inl rfl, Lib.hid fun j hj => by omega⟩
  case round =>
    obtain ⟨k, hk, rfl, hG, hp0, HV⟩ := hrel
    have HG := Lib.hid hG
    have hz := hG.size
    clear hG
    by_cases hlt : k < n
    · go_wp2_with fail
      refine (s_PoolValid a n cap hs _ HX.out hn (HI.out.below HG.out)).mono ?_; rintro e w2 ⟨rfl, b2⟩
      have HG2 := Lib.hid (Below.step HG.out b2 (by omega))
      clear b2
      cases hp : pv hs
      · have HR : Hid (stV hs num = 0) := Lib.hid (by rw [HS.out, hp]; rfl)
        clear hp hp0
        go_wp2
        go_ret
        exact ⟨ret_int HR.out.symm, HG2.out⟩
      obtain ⟨b, off, rfl, hb, hc⟩ := (HI.out.below HG2.out).at HX.out hlt
      obtain ⟨c0, c1, c2⟩ := hc k hlt
      have HP := Lib.hid hp
      clear hc hp hp0
      have HE : Hid ((hs.getD k (0, 0, 0)).1 = (hs.getD k (0, 0, 0)).1 ∧ True) := Lib.hid ⟨rfl, trivial⟩
      by_cases hq : (hs.getD k (0, 0, 0)).1 = num
      · have HR : Hid (stV hs num = (hs.getD k (0, 0, 0)).2.2) := Lib.hid (by rw [HS.out, HP.out, ix_hit (by rw [HX.out]; exact hlt) hq HV.out]; simp)
        generalize (hs.getD k (0, 0, 0)).1 = M at *
        generalize (hs.getD k (0, 0, 0)).2.2 = S at *
        go_wp2
        go_ret
        exact ⟨ret_int HR.out.symm, HG2.out⟩
      · have HQ := Lib.hid hq
        generalize hM : (hs.getD k (0, 0, 0)).1 = M at *
        have HM := Lib.hid hM
        clear hM
        go_wp2
        go_roundw
        case rel =>
          refine ⟨k + 1, by omega, by go_num, HG2.out, .inr HP.out, Lib.hid fun j hj => ?_⟩
          by_cases hjk : j = k
          · subst hjk; rw [HM.out]; exact HQ.out
          · exact HV.out j (by omega)
        case measure => simp [intOf]; omega
    · obtain rfl : k = n := by omega
      have HR : Hid (stV hs num = 0) := Lib.hid (by rw [HS.out, ix_no (by rw [HX.out]; exact HV.out)]; simp)
      go_wp2
      go_ret
      exact ⟨ret_int HR.out.symm, HG.out⟩
end Go.Proofs.Ytdkdfehlmphikaa
