/- The walk of the law FnZoneHosts: true for all bytes. No condition. -/
import Derived.Test.YtdpmlkigmadajaaDZo
import Derived.Test.YtdpmlkigmadajaaZoneP
namespace Go.Proofs.Ytdpmlkigmadajaa
open Go.RowKit
set_option maxHeartbeats 2000000 in
theorem walkZoneHosts (a : Option Addr) (n cap : Nat) (z : List Int) (w : World) (w0 : IsRow .u8 w a n cap z) :
    Calls Try.prog 4 #[.slice a n cap] w fun e w' => e = .returned (.bool true) ∧ Below w.heap.size w w' := by
  by_cases hbig : 1048576 < n
  · have hb' : (1048576 : Int) < (n : Int) := by omega
    go_enter Try.func4, Try.ntmps4
    go_wp2
    go_ret
    exact ⟨rfl, Below.refl _ _⟩
  have hn' : (n : Int) ≤ 1048576 := by omega
  obtain ⟨hcl, hcap⟩ := w0.caps
  have HC := Lib.hid w0.code
  clear w0 hbig
  go_enter Try.func4, Try.ntmps4
  go_wp2_with fail
  refine (s_DrawZoneHosts a n cap _ hcl hcap HC.out).mono ?_
  rintro e w1 ⟨b, c, hs, b2, c2, zs, zn, rfl, hl, hl2, hx, y0, y1, hh, hi, b1⟩
  have z1 := b1.size
  have D1 := Lib.hid b1
  have P1 := Lib.hid hh
  have I1 := Lib.hid hi
  have HXZ := Lib.hid hx
  clear b1 hh hi hx
  have hlz := zoneV_len hs zs zn
  go_wp2_with fail
  refine (c_ZoneHosts _ _ _ hs _ _ _ zs zn _ rfl (by omega) P1.out rfl (by omega) I1.out).mono ?_; rintro e w2 ⟨ax, cx, rfl, ox, g2⟩
  have z2 := g2.size
  have D2 := Lib.hid (Below.step D1.out (grown_below g2) z1)
  have P2 := Lib.hid (P1.out.below (grown_below g2))
  have I2 := Lib.hid (I1.out.below (grown_below g2))
  have X2 := Lib.hid (show Hosts w2 ax (zoneV hs zs zn) from row_vals ox)
  clear g2 ox
  go_wp2_with fail
  refine (s_ZoneHosts _ _ _ hs _ _ _ zs zn _ rfl (by omega) P2.out rfl (by omega) I2.out).mono ?_; rintro e w3 ⟨ay, cy, rfl, oy, g3⟩
  have z3 := g3.size
  have D3 := Lib.hid (Below.step D2.out (grown_below g3) (by omega))
  have P3 := Lib.hid (P2.out.below (grown_below g3))
  have I3 := Lib.hid (I2.out.below (grown_below g3))
  have X3 := Lib.hid (X2.out.below (grown_below g3))
  have Y3 := Lib.hid (show Hosts w3 ay (zoneV hs zs zn) from row_vals oy)
  clear g3 oy
  go_wp2_with fail
  refine (c_samePool _ _ _ _ _ (zoneV hs zs zn) _ rfl (by omega) X3.out Y3.out).mono ?_; rintro e w4 ⟨rfl, b4⟩
  have z4 := b4.size
  have D4 := Lib.hid (Below.step D3.out b4 (by omega))
  have P4 := Lib.hid (P3.out.below b4)
  have I4 := Lib.hid (I3.out.below b4)
  have X4 := Lib.hid (X3.out.below b4)
  clear b4
  go_wp2_with fail
  refine (c_PoolValid _ _ _ hs _ rfl (by omega) P4.out).mono ?_; rintro e w5 ⟨rfl, b5⟩
  have z5 := b5.size
  have D5 := Lib.hid (Below.step D4.out b5 (by omega))
  have P5 := Lib.hid (P4.out.below b5)
  have I5 := Lib.hid (I4.out.below b5)
  have X5 := Lib.hid (X4.out.below b5)
  clear b5
  by_cases hok : pv hs = true ∧ zs.length = hs.length
  · obtain ⟨hp, hzl⟩ := hok
    have HS := Lib.hid (zsum_three hp hzl HXZ.out)
    have HBD := Lib.hid (fun k => zsum_bd hs zs k)
    have HPZ := Lib.hid (pv_zone hs zs zn)
    have hne : ((zs.length : Int) != (hs.length : Int)) = false := by rw [bne_eq_false_iff_eq]; omega
    have HZL := Lib.hid hzl
    rw [hp]
    clear hp hzl
    go_wp2
    go_loopw [7, 8] (fun s i wr => ∃ (k : Nat), k ≤ 3 ∧ i = .int .i64 k ∧ s = .int .i64 (zsum hs zs k) ∧ Below w5.heap.size w5 wr) (fun _ i _ => 3 - (intOf i).toNat)
    case atStart => exact ⟨0, by omega, rfl, rfl, Below.refl _ _⟩
    case round =>
      obtain ⟨k, hk, rfl, rfl, hG⟩ := hrel
      have HG := Lib.hid hG
      have hzz := hG.size
      clear hG
      by_cases hlt : k < 3
      · have hlz2 := zoneV_len hs zs (k : Int)
        have hb0 := HBD.out k
        obtain ⟨hb1, hb2⟩ := hb0
        have hb3 : (k : Int) * (hs.length : Int) ≤ 21 := by
          have hk3 : k = 0 ∨ k = 1 ∨ k = 2 := by omega
          rcases hk3 with rfl | rfl | rfl <;> omega
        have hb4 : zsum hs zs k ≤ 21 := by omega
        have HN : Hid (zsum hs zs (k + 1) = zsum hs zs k + ((zoneV hs zs (k : Int)).length : Int)) := Lib.hid rfl
        clear hb2 hb3
        go_wp2_with fail
        refine (c_ZoneHosts _ _ _ hs _ _ _ zs (k : Int) _ rfl (by omega) (P5.out.below HG.out) rfl (by omega) (I5.out.below HG.out)).mono ?_; rintro e w6 ⟨a6, c6, rfl, o6, g6⟩
        have HG6 := Lib.hid (Below.step HG.out (grown_below g6) hzz)
        clear g6 o6
        generalize (zoneV hs zs (k : Int)).length = m at *
        generalize zsum hs zs k = q at *
        go_wp2
        go_roundw
        case rel => exact ⟨k + 1, by omega, by go_num, by rw [HN.out], HG6.out⟩
        case measure => simp [intOf]; omega
      · obtain rfl : k = 3 := by omega
        rw [HS.out]
        go_wp2_with fail
        refine (c_PoolValid _ _ _ (zoneV hs zs zn) _ rfl (by omega) (X5.out.below HG.out)).mono ?_; rintro e w7 ⟨rfl, b7⟩
        rw [HPZ.out]
        have Q7 := Below.step (Below.step D5.out HG.out (by omega)) b7 (by omega)
        go_wp2_with fail
        go_ret
        exact ⟨rfl, Q7⟩
  · have hzv : zoneV hs zs zn = [] := by
      cases hp : pv hs
      · exact zoneV_no (.inl hp)
      · exact zoneV_no (.inr fun h => hok ⟨hp, h⟩)
    rw [hzv]
    cases hp : pv hs
    · go_wp2_with fail
      refine (c_alive _).mono ?_; rintro e w7 ⟨rfl, b7⟩
      have Q7 := Below.step D5.out b7 (by omega)
      go_wp2_with fail
      go_ret
      exact ⟨rfl, Q7⟩
    · have hne : ((zs.length : Int) != (hs.length : Int)) = true := by
        rw [bne_iff_ne]; intro h; exact hok ⟨hp, by omega⟩
      clear hok
      go_wp2_with fail
      refine (c_alive _).mono ?_; rintro e w7 ⟨rfl, b7⟩
      have Q7 := Below.step D5.out b7 (by omega)
      go_wp2_with fail
      go_ret
      exact ⟨rfl, Q7⟩
end Go.Proofs.Ytdpmlkigmadajaa
