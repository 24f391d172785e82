/- Contract of HostsUp: the numbers of the hosts that are up. No condition but lists of at most 2^20 hosts. -/
import Derived.Test.YtdpmlkigmadajaaRend
namespace Go.Proofs.Ytdpmlkigmadajaa
open Go.RowKit
theorem elemInt : Elem 23 3 1 8 := elem_mk (.int .i64 0) Try.underlying23 (by kernel_rfl) rfl (by decide) (by decide)
def huV (hs : List H3) : List Int := if pv hs then (upV hs).map (·.1) else []
/-- The numbers of the first k hosts. -/
def numsV (us : List H3) (k : Nat) : List Value := (us.take k).map (fun h => .int .i64 h.1)
theorem hu_snoc {us : List H3} {k : Nat} {N : Int} (hk : k < us.length) (h : (us.getD k (0, 0, 0)).1 = N) : numsV us (k + 1) = numsV us k ++ [.int .i64 N] := by
  have hg : us.getD k (0, 0, 0) = us[k] := by simp [List.getD_eq_getElem?_getD, hk]
  rw [hg] at h
  rw [numsV, List.take_succ_eq_append_getElem hk, List.map_append, numsV, ← h]
  rfl
theorem row_wider {w : World} {B B' n : Nat} {e : TypeId} {size : Nat} {v : Value} {vs : List Value} (h : w.ownsRow B e size v n vs) (hB : B' ≤ B) : w.ownsRow B' e size v n vs :=
  ⟨h.1, h.2.imp id fun ⟨g, c, cur, h1, hb, r⟩ => ⟨g, c, cur, h1, Nat.le_trans hB hb, r⟩⟩
set_option maxHeartbeats 1000000 in
theorem c_HostsUp (a : Option Addr) (n cap : Nat) (hs : List H3) (w : World) (hxs : hs.length = n) (hn : n ≤ 1048576) (h : Hosts w a hs) :
    Calls Try.prog 44 #[.slice a n cap] w (RetRow w 3 1 (huV hs).length ((huV hs).map (Value.int .i64))) := by
  have HX := Lib.hid hxs
  have HI := Lib.hid h
  clear h hxs
  cases hp : pv hs
  · have HR : Hid (huV hs = []) := Lib.hid (by simp [huV, hp])
    go_enter Try.func44, Try.ntmps44
    go_wp2_with fail
    refine (c_PoolValid a n cap hs _ HX.out hn HI.out).mono ?_; rintro e w1 ⟨rfl, b1⟩
    rw [hp]
    go_wp2_with fail
    go_ret
    rw [HR.out]
    exact ⟨none, 0, rfl, row_nil _ _ _ _, below_grown b1⟩
  have HR : Hid (huV hs = (upV hs).map (·.1)) := Lib.hid (by simp [huV, hp])
  have hul := up_le hs
  rw [HX.out] at hul
  go_enter Try.func44, Try.ntmps44
  go_wp2_with fail
  refine (c_PoolValid a n cap hs _ HX.out hn HI.out).mono ?_; rintro e w1 ⟨rfl, b1⟩
  rw [hp]
  have B1 := Lib.hid b1
  have z1 := b1.size
  clear b1
  go_wp2_with fail
  refine (c_up a n cap hs _ HX.out hn (HI.out.below B1.out)).mono ?_; rintro e w3 ⟨ua, ucap, rfl, uo, ug⟩
  have HU := Lib.hid (row_vals uo)
  have B3 := Lib.hid (Below.step B1.out (grown_below ug) z1)
  have z3 := B3.out.size
  clear uo ug
  generalize upV hs = us at *
  generalize hun : us.length = un at *
  have HUN := Lib.hid hun
  clear hun
  go_wp2_with fail
  go_loopw [3, 12] (fun v i wr => ∃ (k : Nat) (ao : Option Addr) (c : Nat), k ≤ un ∧ i = .int .i64 k ∧ v = .slice ao k c ∧ wr.ownsRow w3.heap.size 3 1 (.slice ao k c) k (numsV us k) ∧ Below w3.heap.size w3 wr) (fun _ i _ => un - (intOf i).toNat)
  case atStart => exact ⟨0, none, 0, Nat.zero_le _, rfl, rfl, row_nil _ _ _ _, Below.refl _ _⟩
  case round =>
    obtain ⟨k, ao, c, hk, rfl, rfl, hown, hgr⟩ := hrel
    have HO := Lib.hid hown
    have HG := Lib.hid hgr
    have hzs := hgr.size
    clear hown hgr
    by_cases hlt : k < un
    · obtain ⟨b, off, rfl, hb, hc⟩ := (Hosts.below (hs := us) HU.out HG.out).at HUN.out hlt
      obtain ⟨c0, c1, c2⟩ := hc k hlt
      clear hc
      have HS := Lib.hid (hu_snoc (us := us) (k := k) (by rw [HUN.out]; exact hlt) rfl)
      generalize (us.getD k (0, 0, 0)).1 = N at *
      generalize (us.getD k (0, 0, 0)).2.1 = W at *
      generalize (us.getD k (0, 0, 0)).2.2 = S at *
      have HO2 := Lib.hid (HO.out.alloc (.cells #[.int .i64 N, .int .i64 W, .int .i64 S] 76))
      have HG2 := Lib.hid (HG.out.alloc hzs (.cells #[.int .i64 N, .int .i64 W, .int .i64 S] 76))
      go_wp2_with (at_builtin; refine wpl_app _ rfl elemInt (.tmp 16) (.tmp 19) rfl w3.heap.size _ _ _ rfl (HO2.out.alloc _) _ 1 1 [.int .i64 N] rfl rfl (news_of (Box.new2 _ 3 [_] _ (by simp))) (one1 rfl) (by decide) ?c1 ?c2 (k + 1) rfl _ rfl ?c4)
      case c1 => omega
      case c2 => first | omega | (simp; omega)
      case c4 =>
        intro b' cap'' w5 hown hgrow hat hlt5
        have HG5 := Lib.hid ((HG2.out.alloc (by simp; omega) (.cells #[.int .i64 N] 3)).grown hgrow (by simp; omega) (fun g hg => (HO2.out.lt g hg).1))
        have HO5 := Lib.hid hown
        clear hown hgrow hat
        go_wp2
        go_roundw
        case rel =>
          refine ⟨k + 1, some ⟨b', 0, none⟩, cap'', by omega, by go_num, rfl, ?_, HG5.out⟩
          rw [HS.out]
          exact HO5.out
        case measure => simp [intOf]; omega
    · obtain rfl : k = un := by omega
      go_wp2
      go_ret
      have ho := HO.out
      rw [numsV, List.take_of_length_le (by rw [HUN.out]; exact Nat.le_refl _)] at ho
      rw [HR.out, List.length_map, HUN.out, List.map_map]
      exact ⟨ao, c, rfl, row_wider ho z3, below_grown (Below.step B3.out HG.out z3)⟩
end Go.Proofs.Ytdpmlkigmadajaa
