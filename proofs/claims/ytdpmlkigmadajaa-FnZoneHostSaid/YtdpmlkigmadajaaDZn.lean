/- The draw of zones. No condition. -/
import Derived.Test.YtdpmlkigmadajaaKey
import Derived.Test.YtdpmlkigmadajaaApp
namespace Go.Proofs.Ytdpmlkigmadajaa
open Go.RowKit
variable {D : Nat}
theorem in_snoc {xs : List Int} {lo hi k : Int} (h : ∀ x ∈ xs, lo ≤ x ∧ x ≤ hi) (h1 : lo ≤ k) (h2 : k ≤ hi) : ∀ x ∈ xs ++ [k], lo ≤ x ∧ x ≤ hi := by
  intro x hx
  rcases List.mem_append.1 hx with h' | h'
  · exact h x h'
  · simp only [List.mem_cons, List.not_mem_nil, or_false] at h'; subst h'; exact ⟨h1, h2⟩
set_option maxHeartbeats 1000000 in
theorem s_l20Zones (g p : Nat) (many : Nat) (w : World) (h : Rd D w g p) (hp : p ≤ 9000) (hm : many ≤ 20) :
    Calls Try.prog 56 #[.pointer (some ⟨g, 0, none⟩), .int .i64 many] w (RetL D w g p (2 * many + 4) (many + 1) 0 2) := by
  obtain ⟨i0, hi, hz0, hz1, hz2⟩ := info_parts infoInt8
  have hglt : g < w.heap.size := h.lt
  have hDg : D ≤ g := h.1
  have HR := Lib.hid (h.keep (grownBy_alloc w none (.cells #[] 3)))
  clear h
  have hmi : (many : Int) ≤ 20 := by omega
  go_enter Try.func56, Try.ntmps56
  go_wp2
  go_loopw [5, 6] (fun v i wr => ∃ (k q b cap : Nat) (xs : List Int), v = .slice (some ⟨b, 0, none⟩) xs.length cap ∧ i = .int .i64 k ∧ k = xs.length ∧ k ≤ many + 1 ∧ q ≤ p + 2 * k ∧ (∀ x ∈ xs, 0 ≤ x ∧ x ≤ 2) ∧
    wr.ownsRow w.heap.size 3 1 (.slice (some ⟨b, 0, none⟩) xs.length cap) xs.length (xs.map (Value.int .i64)) ∧ Rd D wr g q ∧ w.grownBy wr (some g)) (fun _ i _ => many + 2 - (intOf i).toNat)
  case atStart => exact ⟨0, p, w.heap.size, 0, [], rfl, rfl, rfl, by omega, by omega, by simp, own_empty w, HR.out, grownBy_alloc _ _ _⟩
  case round =>
    obtain ⟨k, q, b, cap, xs, rfl, rfl, hkx, hk, hq, hx, hown, hr, hgr⟩ := hrel
    have HX := Lib.hid hx
    have HO := Lib.hid hown
    have HR2 := Lib.hid hr
    have HG := Lib.hid hgr
    have HK := Lib.hid hkx
    obtain ⟨hbl, _⟩ := hown.lt b rfl
    have hkx' : xs.length ≤ k := by omega
    have hkx'' : k ≤ xs.length := by omega
    clear hown hgr hr hx hkx
    go_wp2_with fail
    refine (c_pick g q 12 _ HR2.out (by omega) (by omega) (by omega)).mono ?_
    rintro e w3 ⟨x, rfl, x0, x1, _, hr3, hg3⟩
    have x1 := x1 (by omega)
    have HR3 := Lib.hid hr3
    have HG3 := Lib.hid (grownBy_tr HG.out hg3)
    have HO3 := Lib.hid (HO.out.kept hg3 (.inr (by simp [Value.ownBlock]; omega)))
    have z3 := HG3.out.size
    clear hr3 hg3
    have hd : 0 ≤ x / 11 ∧ x / 11 ≤ 1 := by omega
    obtain ⟨d0, d1⟩ := hd
    have htd : IntKind.i64.wrap (x.tdiv 11) = x / 11 := by rw [Int.tdiv_eq_ediv_of_nonneg x0]; exact IntWalk.i64_in _ (by omega)
    generalize hxx : x / 11 = y at *
    by_cases hlt : (k : Int) < (many : Int) + y
    · go_wp2_with fail
      refine (c_pick g (q + 1) 3 _ HR3.out (by omega) (by omega) (by omega)).mono ?_
      rintro e w4 ⟨t, rfl, t0, t1, _, hr4, hg4⟩
      have t1 := t1 (by omega)
      have HR4 := Lib.hid hr4
      have HG4 := Lib.hid (grownBy_tr HG3.out hg4)
      have HO4 := Lib.hid (HO3.out.kept hg4 (.inr (by simp [Value.ownBlock]; omega)))
      have z4 := HG4.out.size
      clear hr4 hg4
      go_wp2_with (at_builtin; refine wpList_append_lies _ rfl (.tmp 17) (.tmp 20) 23 rfl w.heap.size 3 i0 (.int .i64 0) 1 8 Try.underlying23 hi hz0 hz1 hz2 rfl (by decide) _ _ _ rfl (HO4.out.alloc _) _ 1 1 [.int .i64 t] rfl rfl (news_one _ _ _) (one_cell t) (by decide) ?c1 ?c2 ?c3 _ rfl ?c4)
      case c1 => unfold maxLen; omega
      case c2 => omega
      case c3 => simp; omega
      case c4 =>
        intro b' cap' w5 hown hgrow hat hlt4
        have HR5 := Lib.hid ((HR4.out.keep (grownBy_alloc _ _ _)).far (b := b) hgrow (by omega) (by omega))
        have HG5 := Lib.hid (gb_own (b := b) (gb_alloc HG4.out _) hgrow hbl)
        have HO5 := Lib.hid hown
        clear hown hgrow hat
        go_wp2
        go_roundw
        case rel =>
          refine ⟨k + 1, q + 2, b', cap', xs ++ [t], by simp, by go_num, by simp; omega, by omega, by omega, in_snoc HX.out (by omega) (by omega), ?_, HR5.out, HG5.out⟩
          have := HO5.out
          simpa using this
        case measure => simp [intOf]; omega
    · go_wp2
      go_ret
      exact ⟨b, cap, xs, rfl, by omega, HX.out, HO3.out, ⟨q + 1, by omega, HR3.out⟩, HG3.out⟩
end Go.Proofs.Ytdpmlkigmadajaa
