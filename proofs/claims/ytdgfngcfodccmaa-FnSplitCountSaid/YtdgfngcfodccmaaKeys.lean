/- The draw of a list of keys. No condition. -/
import Derived.Test.YtdgfngcfodccmaaKey
import Derived.Test.YtdgfngcfodccmaaApp
namespace Go.Proofs.Ytdgfngcfodccmaa
open Go.RowKit
variable {D : Nat}
set_option maxHeartbeats 1000000 in
theorem s_l20Keys (g p : Nat) (n : Int) (w : World) (h : Rd D w g p) (hp : p ≤ 9000) (n1 : 0 ≤ n) (n2 : n ≤ 1000) :
    Calls Try.prog 46 #[.pointer (some ⟨g, 0, none⟩), .int .i64 n] w (RetL D w g p 40 7 (-1) 1000003) := by
  obtain ⟨i0, hi, hz0, hz1, hz2⟩ := info_parts infoInt8
  have hglt : g < w.heap.size := h.lt
  have hDg : D ≤ g := h.1
  have HR := Lib.hid h
  clear h
  go_enter Try.func46, Try.ntmps46
  go_wp2_with fail
  refine (c_pick g p 8 _ (HR.out.keep (grownBy_alloc _ _ _)) (by omega) (by omega) (by omega)).mono ?_
  rintro e w1 ⟨x, rfl, x0, x1, _, hr1, hg1⟩
  have x1 := x1 (by omega)
  obtain ⟨j0, rfl⟩ := Int.eq_ofNat_of_zero_le x0
  have HR1 := Lib.hid hr1
  have HG1 := Lib.hid (grownBy_tr (grownBy_alloc w (some g) (.cells #[] 3)) hg1)
  have HO1 := Lib.hid ((own_empty w).kept hg1 (.inr (by simp [Value.ownBlock]; omega)))
  clear hr1 hg1
  go_wp2
  go_loopw [5, 6] (fun v i wr => ∃ (j b cap : Nat) (xs : List Int), v = .slice (some ⟨b, 0, none⟩) xs.length cap ∧ i = .int .i64 j ∧ xs.length + j ≤ 7 ∧ (∀ x ∈ xs, -1 ≤ x ∧ x ≤ 1000003) ∧
    wr.ownsRow w.heap.size 3 1 (.slice (some ⟨b, 0, none⟩) xs.length cap) xs.length (xs.map (Value.int .i64)) ∧ (∃ p', p' ≤ p + 1 + 4 * xs.length ∧ Rd D wr g p') ∧ w.grownBy wr (some g)) (fun _ i _ => (intOf i).toNat)
  case atStart => exact ⟨j0, w.heap.size, 0, [], rfl, rfl, by simp; omega, by simp, HO1.out, ⟨p + 1, by simp, HR1.out⟩, HG1.out⟩
  case round =>
    obtain ⟨j, b, cap, xs, rfl, rfl, hj, hx, hown, ⟨p2, hp2, hr2⟩, hgr⟩ := hrel
    have HX := Lib.hid hx
    have HO := Lib.hid hown
    have HR2 := Lib.hid hr2
    have HG := Lib.hid hgr
    obtain ⟨hbl, _⟩ := hown.lt b rfl
    clear hown hgr hr2 hx HO1 HG1 HR1
    by_cases hlt : 0 < j
    · go_wp2_with fail
      refine (s_l20Key g p2 n _ HR2.out (by omega) n1 n2).mono ?_
      rintro e w3 ⟨k, rfl, k1, k2, ⟨p3, hp3, hr3⟩, hg3⟩
      have HR3 := Lib.hid hr3
      have HG3 := Lib.hid (grownBy_tr HG.out hg3)
      have HO3 := Lib.hid (HO.out.kept hg3 (.inr (by simp [Value.ownBlock]; omega)))
      have z3 := HG3.out.size
      clear hr3 hg3
      go_wp2_with (at_builtin; refine wpList_append_lies _ rfl (.tmp 14) (.tmp 18) 32 rfl w.heap.size 3 i0 (.int .i64 0) 1 8 Try.underlying32 hi hz0 hz1 hz2 rfl (by decide) _ _ _ rfl (HO3.out.alloc _) _ 1 1 [.int .i64 k] rfl rfl (news_one _ _ _) (one_cell k) (by decide) ?c1 ?c2 ?c3 _ rfl ?c4)
      case c1 => unfold maxLen; omega
      case c2 => omega
      case c3 => simp; omega
      case c4 =>
        intro b' cap' w4 hown hgrow hat hlt4
        have HR4 := Lib.hid ((HR3.out.keep (grownBy_alloc _ _ _)).far (b := b) hgrow (by omega) (by omega))
        have HG4 := Lib.hid (gb_own (b := b) (gb_alloc HG3.out _) hgrow hbl)
        have HO4 := Lib.hid hown
        clear hown hgrow hat
        go_wp2
        go_roundw
        case rel =>
          refine ⟨j - 1, b', cap', xs ++ [k], by simp, by go_num, by simp; omega, fun x hx => ?_, ?_, ⟨p3, by simp; omega, HR4.out⟩, HG4.out⟩
          · rcases List.mem_append.1 hx with h | h
            · exact HX.out x h
            · simp only [List.mem_cons, List.not_mem_nil, or_false] at h; subst h; exact ⟨k1, k2⟩
          · have := HO4.out
            simpa using this
        case measure => simp [intOf]; omega
    · go_wp2
      go_ret
      exact ⟨b, cap, xs, rfl, by omega, HX.out, HO.out, ⟨p2, by omega, HR2.out⟩, HG.out⟩
end Go.Proofs.Ytdgfngcfodccmaa
