/- The walk of the law FnZoneHost: true for all bytes. No condition. -/
import Derived.Test.YtdpmlkigmadajaaDZk
import Derived.Test.YtdpmlkigmadajaaZhP
namespace Go.Proofs.Ytdpmlkigmadajaa
open Go.RowKit
set_option maxHeartbeats 2000000 in
theorem walkZoneHost (a : Option Addr) (n cap : Nat) (z : List Int) (w : World) (w0 : IsRow .u8 w a n cap z) :
    Calls Try.prog 11 #[.slice a n cap] w fun e w' => e = .returned (.bool true) ∧ Below w.heap.size w w' := by
  by_cases hbig : 1048576 < n
  · have hb' : (1048576 : Int) < (n : Int) := by omega
    go_enter Try.func11, Try.ntmps11
    go_wp2
    go_ret
    exact ⟨rfl, Below.refl _ _⟩
  have hn' : (n : Int) ≤ 1048576 := by omega
  obtain ⟨hcl, hcap⟩ := w0.caps
  have HC := Lib.hid w0.code
  clear w0 hbig
  go_enter Try.func11, Try.ntmps11
  go_wp2_with fail
  refine (s_DrawZoneHost a n cap _ hcl hcap HC.out).mono ?_
  rintro e w1 ⟨b, c, hs, b2, c2, zs, zn, key, rfl, hl, hl2, hx, y0, y1, hh, hi, b1⟩
  have z1 := b1.size
  have D1 := Lib.hid b1
  have P1 := Lib.hid hh
  have I1 := Lib.hid hi
  clear b1 hh hi hx
  have hlz := zoneV_len hs zs zn
  have HF := Lib.hid (fun h => zh_far (hs := hs) (zs := zs) (z := zn) (key := key) h)
  have HN := Lib.hid (fun h => zh_near (hs := hs) (zs := zs) (z := zn) (key := key) h)
  have HB := Lib.hid (zh_bd hs zs zn key)
  have hul := hu_len (pv_zone hs zs zn)
  have hupl := up_le (zoneV hs zs zn)
  have HU := Lib.hid (show (huV (zoneV hs zs zn)).length = 0 ↔ upV (zoneV hs zs zn) = [] by rw [hul]; exact List.length_eq_zero_iff)
  have hul' : (huV (zoneV hs zs zn)).length ≤ 7 := by omega
  clear hul hupl
  go_wp2_with fail
  refine (c_ZoneHost _ _ _ hs _ _ _ zs zn key _ rfl (by omega) P1.out rfl (by omega) I1.out).mono ?_; rintro e w2 ⟨rfl, b2⟩
  have z2 := b2.size
  have D2 := Lib.hid (Below.step D1.out b2 z1)
  have P2 := Lib.hid (P1.out.below b2)
  have I2 := Lib.hid (I1.out.below b2)
  clear b2
  go_wp2_with fail
  refine (s_ZoneHost _ _ _ hs _ _ _ zs zn key _ rfl (by omega) P2.out rfl (by omega) I2.out).mono ?_; rintro e w3 ⟨rfl, b3⟩
  have z3 := b3.size
  have D3 := Lib.hid (Below.step D2.out b3 (by omega))
  have P3 := Lib.hid (P2.out.below b3)
  have I3 := Lib.hid (I2.out.below b3)
  clear b3
  generalize hzv : zhV hs zs zn key = v at *
  have HV := Lib.hid hzv
  clear hzv
  by_cases hv : v < 0
  · obtain rfl : v = -1 := by have := HB.out; omega
    go_wp2_with fail
    refine (c_alive _).mono ?_; rintro e w7 ⟨rfl, b7⟩
    have Q7 := Below.step D3.out b7 (by omega)
    go_wp2_with fail
    go_ret
    exact ⟨rfl, Q7⟩
  have hv' : 0 ≤ v := by omega
  have HF := Lib.hid (HF.out hv')
  have HN := Lib.hid (HN.out hv')
  go_wp2_with fail
  refine (c_ZoneHosts _ _ _ hs _ _ _ zs zn _ rfl (by omega) P3.out rfl (by omega) I3.out).mono ?_; rintro e w4 ⟨ax, cx, rfl, ox, g4⟩
  have z4 := g4.size
  have D4 := Lib.hid (Below.step D3.out (grown_below g4) (by omega))
  have P4 := Lib.hid (P3.out.below (grown_below g4))
  have X4 := Lib.hid (show Hosts w4 ax (zoneV hs zs zn) from row_vals ox)
  clear g4 ox
  go_wp2_with fail
  refine (c_HostsUp _ _ _ (zoneV hs zs zn) _ rfl (by omega) X4.out).mono ?_; rintro e w5 ⟨au, cu, rfl, ou, g5⟩
  have z5 := g5.size
  have D5 := Lib.hid (Below.step D4.out (grown_below g5) (by omega))
  have P5 := Lib.hid (P4.out.below (grown_below g5))
  have X5 := Lib.hid (X4.out.below (grown_below g5))
  clear g5 ou
  generalize (huV (zoneV hs zs zn)).length = m at *
  by_cases hm : m = 0
  · subst hm
    have HR := Lib.hid (HF.out (HU.out.1 rfl))
    go_wp2_with fail
    refine (c_RendezvousHost _ _ _ hs key _ rfl (by omega) P5.out).mono ?_; rintro e w6 ⟨rfl, b6⟩
    rw [← HR.out]
    have Q7 := Below.step D5.out b6 (by omega)
    go_wp2_with fail
    go_ret
    exact ⟨rfl, Q7⟩
  · have hm' : 0 < m := by omega
    have HR := Lib.hid (HN.out (fun h => hm (HU.out.2 h)))
    clear hm
    go_wp2_with fail
    refine (c_HostState _ _ _ (zoneV hs zs zn) v _ rfl (by omega) X5.out).mono ?_; rintro e w6 ⟨rfl, b6⟩
    rw [HR.out]
    have Q7 := Below.step D5.out b6 (by omega)
    go_wp2_with fail
    go_ret
    exact ⟨rfl, Q7⟩
end Go.Proofs.Ytdpmlkigmadajaa
