/- Contracts of ZoneHost, of the program and of the reference. No condition but lists of at most 2^20. -/
import Derived.Test.YtdpmlkigmadajaaRend
namespace Go.Proofs.Ytdpmlkigmadajaa
open Go.RowKit
/-- The host that a key chooses, near hosts first. -/
def zhV (hs : List H3) (zs : List Int) (z key : Int) : Int :=
  if pv hs && decide (zs.length = hs.length) && inB key 0 1000002 then if 0 ≤ rendV (zoneV hs zs z) key then rendV (zoneV hs zs z) key else rendV hs key else -1
theorem rendV_key {hs : List H3} {key : Int} (h : inB key 0 1000002 = false) : rendV hs key = -1 := by simp [rendV, h]
theorem zhV_yes {hs : List H3} {zs : List Int} {z key : Int} (h1 : pv hs = true) (h2 : zs.length = hs.length) :
    zhV hs zs z key = if 0 ≤ rendV (zoneV hs zs z) key then rendV (zoneV hs zs z) key else rendV hs key := by
  cases hk : inB key 0 1000002
  · simp [zhV, hk, rendV_key hk]
  · simp [zhV, hk, h1, h2]
theorem zhV_no {hs : List H3} {zs : List Int} {z key : Int} (h : pv hs = false ∨ zs.length ≠ hs.length ∨ inB key 0 1000002 = false) : zhV hs zs z key = -1 := by
  unfold zhV
  rcases h with h | h | h <;> simp [h]
set_option maxHeartbeats 800000 in
theorem c_ZoneHost (a : Option Addr) (n cap : Nat) (hs : List H3) (a' : Option Addr) (n' cap' : Nat) (zs : List Int) (z key : Int) (w : World) (hxs : hs.length = n) (hn : n ≤ 1048576) (h : Hosts w a hs) (hys : zs.length = n') (hn2 : n' ≤ 1048576) (h' : Ints w a' zs) :
    Calls Try.prog 42 #[.slice a n cap, .slice a' n' cap', .int .i64 z, .int .i64 key] w fun e w' => e = .returned (.int .i64 (zhV hs zs z key)) ∧ Below w.heap.size w w' := by
  have HX := Lib.hid hxs
  have HY := Lib.hid hys
  have HI := Lib.hid h
  have HJ := Lib.hid h'
  clear h h' hxs hys
  cases hp : pv hs
  · have HR := Lib.hid (zhV_no (hs := hs) (zs := zs) (z := z) (key := key) (.inl hp))
    go_enter Try.func42, Try.ntmps42
    go_wp2_with fail
    refine (c_PoolValid a _ cap hs _ HX.out hn HI.out).mono ?_; rintro e w1 ⟨rfl, b1⟩
    rw [hp]
    go_wp2_with fail
    go_ret
    exact ⟨ret_int HR.out.symm, b1⟩
  by_cases hne : n' = n
  · have hnb : ((n' : Int) == (n : Int)) = true := beq_iff_eq.2 (by omega)
    have HZ := Lib.hid (zhV_yes (hs := hs) (zs := zs) (z := z) (key := key) hp (by rw [HX.out, HY.out]; exact hne))
    have hzl := zoneV_len hs zs z
    rw [HX.out] at hzl
    have HZN : Hid ((zoneV hs zs z).length ≤ 1048576) := Lib.hid (by omega)
    clear hzl hnb
    obtain rfl : n = n' := hne.symm
    cases hk : inB key 0 1000002
    · have HR := Lib.hid (zhV_no (hs := hs) (zs := zs) (z := z) (key := key) (.inr (.inr hk)))
      go_enter Try.func42, Try.ntmps42
      go_wp2_with fail
      refine (c_PoolValid a _ cap hs _ HX.out hn HI.out).mono ?_; rintro e w1 ⟨rfl, b1⟩
      rw [hp]
      go_wp2_with fail
      refine (c_isKey _ _).mono ?_; rintro e w2 ⟨rfl, rfl⟩
      rw [hk]
      go_wp2_with fail
      go_ret
      exact ⟨ret_int HR.out.symm, b1⟩
    go_enter Try.func42, Try.ntmps42
    go_wp2_with fail
    refine (c_PoolValid a _ cap hs _ HX.out hn HI.out).mono ?_; rintro e w1 ⟨rfl, b1⟩
    rw [hp]
    have z1 := b1.size
    have B1 := Lib.hid b1
    clear b1
    go_wp2_with fail
    refine (c_isKey _ _).mono ?_; rintro e w2 ⟨rfl, rfl⟩
    rw [hk]
    go_wp2_with fail
    refine (c_ZoneHosts a _ cap hs a' _ cap' zs z _ HX.out hn (HI.out.below B1.out) HY.out hn2 (HJ.out.below B1.out)).mono ?_; rintro e w3 ⟨ua, uc, rfl, uo, ug⟩
    have B3 := Lib.hid (Below.step B1.out (grown_below ug) z1)
    have z3 := B3.out.size
    have HU := Lib.hid (row_vals uo)
    clear ug uo
    go_wp2_with fail
    refine (c_RendezvousHost ua _ uc (zoneV hs zs z) key _ rfl HZN.out HU.out).mono ?_; rintro e w4 ⟨rfl, b4⟩
    have B4 := Lib.hid (Below.step B3.out b4 z3)
    have z4 := B4.out.size
    clear b4
    by_cases hr : 0 ≤ rendV (zoneV hs zs z) key
    · have HR := Lib.hid (HZ.out.trans (if_pos hr))
      go_wp2_with fail
      go_ret
      exact ⟨ret_int HR.out.symm, B4.out⟩
    · have HR := Lib.hid (HZ.out.trans (if_neg hr))
      go_wp2_with fail
      refine (c_RendezvousHost a _ cap hs key _ HX.out hn (HI.out.below B4.out)).mono ?_; rintro e w5 ⟨rfl, b5⟩
      go_wp2_with fail
      go_ret
      exact ⟨ret_int HR.out.symm, Below.step B4.out b5 z4⟩
  · have HR := Lib.hid (zhV_no (hs := hs) (zs := zs) (z := z) (key := key) (.inr (.inl (by rw [HX.out, HY.out]; exact hne))))
    have hnb : ¬ ((n' : Int) = (n : Int)) := by omega
    go_enter Try.func42, Try.ntmps42
    go_wp2_with fail
    refine (c_PoolValid a _ cap hs _ HX.out hn HI.out).mono ?_; rintro e w1 ⟨rfl, b1⟩
    rw [hp]
    go_wp2_with fail
    go_ret
    exact ⟨ret_int HR.out.symm, b1⟩
set_option maxHeartbeats 800000 in
theorem s_ZoneHost (a : Option Addr) (n cap : Nat) (hs : List H3) (a' : Option Addr) (n' cap' : Nat) (zs : List Int) (z key : Int) (w : World) (hxs : hs.length = n) (hn : n ≤ 1048576) (h : Hosts w a hs) (hys : zs.length = n') (hn2 : n' ≤ 1048576) (h' : Ints w a' zs) :
    Calls Try.prog 41 #[.slice a n cap, .slice a' n' cap', .int .i64 z, .int .i64 key] w fun e w' => e = .returned (.int .i64 (zhV hs zs z key)) ∧ Below w.heap.size w w' := by
  have HX := Lib.hid hxs
  have HY := Lib.hid hys
  have HI := Lib.hid h
  have HJ := Lib.hid h'
  clear h h' hxs hys
  cases hp : pv hs
  · have HR := Lib.hid (zhV_no (hs := hs) (zs := zs) (z := z) (key := key) (.inl hp))
    go_enter Try.func41, Try.ntmps41
    go_wp2_with fail
    refine (s_PoolValid a _ cap hs _ HX.out hn HI.out).mono ?_; rintro e w1 ⟨rfl, b1⟩
    rw [hp]
    go_wp2_with fail
    go_ret
    exact ⟨ret_int HR.out.symm, b1⟩
  by_cases hne : n' = n
  · have hnb : ((n' : Int) == (n : Int)) = true := beq_iff_eq.2 (by omega)
    have HZ := Lib.hid (zhV_yes (hs := hs) (zs := zs) (z := z) (key := key) hp (by rw [HX.out, HY.out]; exact hne))
    have hzl := zoneV_len hs zs z
    rw [HX.out] at hzl
    have HZN : Hid ((zoneV hs zs z).length ≤ 1048576) := Lib.hid (by omega)
    clear hzl hnb
    obtain rfl : n = n' := hne.symm
    go_enter Try.func41, Try.ntmps41
    go_wp2_with fail
    refine (s_PoolValid a _ cap hs _ HX.out hn HI.out).mono ?_; rintro e w1 ⟨rfl, b1⟩
    rw [hp]
    have z1 := b1.size
    have B1 := Lib.hid b1
    clear b1
    go_wp2_with fail
    refine (s_ZoneHosts a _ cap hs a' _ cap' zs z _ HX.out hn (HI.out.below B1.out) HY.out hn2 (HJ.out.below B1.out)).mono ?_; rintro e w3 ⟨ua, uc, rfl, uo, ug⟩
    have B3 := Lib.hid (Below.step B1.out (grown_below ug) z1)
    have z3 := B3.out.size
    have HU := Lib.hid (row_vals uo)
    clear ug uo
    go_wp2_with fail
    refine (s_RendezvousHost ua _ uc (zoneV hs zs z) key _ rfl HZN.out HU.out).mono ?_; rintro e w4 ⟨rfl, b4⟩
    have B4 := Lib.hid (Below.step B3.out b4 z3)
    have z4 := B4.out.size
    clear b4
    by_cases hr : 0 ≤ rendV (zoneV hs zs z) key
    · have HR := Lib.hid (HZ.out.trans (if_pos hr))
      go_wp2_with fail
      go_ret
      exact ⟨ret_int HR.out.symm, B4.out⟩
    · have HR := Lib.hid (HZ.out.trans (if_neg hr))
      go_wp2_with fail
      refine (s_RendezvousHost a _ cap hs key _ HX.out hn (HI.out.below B4.out)).mono ?_; rintro e w5 ⟨rfl, b5⟩
      go_wp2_with fail
      go_ret
      exact ⟨ret_int HR.out.symm, Below.step B4.out b5 z4⟩
  · have HR := Lib.hid (zhV_no (hs := hs) (zs := zs) (z := z) (key := key) (.inr (.inl (by rw [HX.out, HY.out]; exact hne))))
    have hnb : ¬ ((n' : Int) = (n : Int)) := by omega
    go_enter Try.func41, Try.ntmps41
    go_wp2_with fail
    refine (s_PoolValid a _ cap hs _ HX.out hn HI.out).mono ?_; rintro e w1 ⟨rfl, b1⟩
    rw [hp]
    go_wp2_with fail
    go_ret
    exact ⟨ret_int HR.out.symm, b1⟩
end Go.Proofs.Ytdpmlkigmadajaa
