/- The walk of the exact law of ZoneHost: true for all arguments. No condition. The text is written by a program (wip/ex_zone1.py). -/
import Derived.Test.YtdpmlkigmadajaaZoneH
import Derived.Test.YtdpmlkigmadajaaZoneX
namespace Go.Proofs.Ytdpmlkigmadajaa
open Go.RowKit
set_option maxHeartbeats 2000000 in
theorem walkExactZoneHost (a : Option Addr) (n cap : Nat) (hs : List H3) (a' : Option Addr) (n' cap' : Nat) (z : List Int) (zn key : Int) (w : World) (w0 : IsHosts w a n cap hs) (w1 : IsRow .i64 w a' n' cap' z) (_ : (Lit.int .i64 zn).wf = true) (_ : (Lit.int .i64 key).wf = true) :
    Calls Try.prog 10 #[.slice a n cap, .slice a' n' cap', .int .i64 zn, .int .i64 key] w fun e w' => e = .returned (.bool true) ∧ Below w.heap.size w w' := by
  by_cases hbig : 1048576 < n'
  · have hb' : (1048576 : Int) < (n' : Int) := by omega
    go_enter Try.func10, Try.ntmps10
    go_wp2
    go_ret
    exact ⟨rfl, Below.refl _ _⟩
  have hm : n' ≤ 1048576 := by omega
  have hm' : (n' : Int) ≤ 1048576 := by omega
  obtain ⟨hI, hM⟩ := w1.ints
  generalize z.take n' = zs at hI hM
  obtain ⟨hL, hnc, hcm, hP⟩ := w0
  clear w1 hbig
  have HI := Lib.hid hI
  have HM := Lib.hid hM
  have HP := Lib.hid hP
  have HL := Lib.hid hL
  have HCM := Lib.hid (Nat.le_trans hnc hcm)
  clear hI hM hP hL hnc hcm
  by_cases hbig : 1048576 < n
  · have hb' : (1048576 : Int) < (n : Int) := by omega
    go_enter Try.func10, Try.ntmps10
    go_wp2_with fail
    refine (c_szHostS_no _ _ _ _ _ HCM.out (by omega) (by omega) hb').mono ?_; rintro e w' ⟨rfl, rfl⟩
    go_wp2_with fail
    go_ret
    exact ⟨rfl, Below.refl _ _⟩
  have hn : n ≤ 1048576 := by omega
  have hn0 : (n : Int) ≤ 1048576 := by omega
  clear hbig
  go_enter Try.func10, Try.ntmps10
  go_wp2_with fail
  refine (c_szHostS _ _ _ _ _ (by omega) hn0).mono ?_; rintro e w' ⟨rfl, rfl⟩
  have hsz : ¬ (1048576 - (n : Int) < 0) := by omega
  go_wp2_with fail
  refine (c_toHostS _ _ _ hs _ HL.out hn HP.out).mono ?_; rintro e w1 ⟨a1, c1, rfl, o1, g1⟩
  have z1 := g1.size
  have D1 := Lib.hid (grown_below g1)
  have OA1 := Lib.hid o1
  have LA := Lib.hid (fun k hk => o1.lt k hk)
  clear g1 o1
  go_wp2_with fail
  refine (r_toIntS _ _ _ zs _ HM.out hm (HI.out.below D1.out)).mono ?_; rintro e w2 ⟨a2, c2, rfl, o2, g2⟩
  have z2 := g2.size
  have D2 := Lib.hid (Below.step D1.out (grown_below g2) (by omega))
  have OA2 := Lib.hid (row_kept OA1.out g2 (fun k _ => by simp))
  have OB2 := Lib.hid o2
  have LB := Lib.hid (fun k hk => o2.lt k hk)
  clear g2 o2
  go_wp2_with fail
  refine (s_ZoneHost _ _ _ hs _ _ _ zs zn key _ HL.out hn (row_vals OA2.out) HM.out hm (row_vals OB2.out).ints).mono ?_; rintro e w3 ⟨rfl, b3⟩
  have z3 := b3.size
  have D3 := Lib.hid (Below.step D2.out (b3) (by omega))
  have OA3 := Lib.hid (row_kept OA2.out (below_grown b3) (fun k _ => by simp))
  have OB3 := Lib.hid (row_kept OB2.out (below_grown b3) (fun k _ => by simp))
  clear b3
  clear OA3
  clear OB3
  go_wp2_with fail
  refine (c_toHostS _ _ _ hs _ HL.out hn (HP.out.below D3.out)).mono ?_; rintro e w4 ⟨a4, c4, rfl, o4, g4⟩
  have z4 := g4.size
  have D4 := Lib.hid (Below.step D3.out (grown_below g4) (by omega))
  have OX4 := Lib.hid o4
  have LX := Lib.hid (fun k hk => o4.lt k hk)
  clear g4 o4
  go_wp2_with fail
  refine (r_toIntS _ _ _ zs _ HM.out hm (HI.out.below D4.out)).mono ?_; rintro e w5 ⟨a5, c5, rfl, o5, g5⟩
  have z5 := g5.size
  have D5 := Lib.hid (Below.step D4.out (grown_below g5) (by omega))
  have OX5 := Lib.hid (row_kept OX4.out g5 (fun k _ => by simp))
  have OV5 := Lib.hid o5
  have LV := Lib.hid (fun k hk => o5.lt k hk)
  clear g5 o5
  go_wp2_with fail
  refine (c_ZoneHost _ _ _ hs _ _ _ zs zn key _ HL.out hn (row_vals OX5.out) HM.out hm (row_vals OV5.out).ints).mono ?_; rintro e w6 ⟨rfl, b6⟩
  have z6 := b6.size
  have D6 := Lib.hid (Below.step D5.out (b6) (by omega))
  have OX6 := Lib.hid (row_kept OX5.out (below_grown b6) (fun k _ => by simp))
  have OV6 := Lib.hid (row_kept OV5.out (below_grown b6) (fun k _ => by simp))
  clear b6
  go_wp2_with fail
  refine (c_toHostS _ _ _ hs _ HL.out hn (HP.out.below D6.out)).mono ?_; rintro e w7 ⟨a7, c7, rfl, o7, g7⟩
  have z7 := g7.size
  have D7 := Lib.hid (Below.step D6.out (grown_below g7) (by omega))
  have OX7 := Lib.hid (row_kept OX6.out g7 (fun k _ => by simp))
  have OV7 := Lib.hid (row_kept OV6.out g7 (fun k _ => by simp))
  have OT7 := Lib.hid o7
  have LT := Lib.hid (fun k hk => o7.lt k hk)
  clear g7 o7
  go_wp2_with fail
  refine (c_eqHostS _ _ _ _ _ hs _ HL.out hn (row_vals OX7.out) (row_vals OT7.out)).mono ?_; rintro e w8 ⟨rfl, b8⟩
  have z8 := b8.size
  have D8 := Lib.hid (Below.step D7.out (b8) (by omega))
  have OX8 := Lib.hid (row_kept OX7.out (below_grown b8) (fun k _ => by simp))
  have OV8 := Lib.hid (row_kept OV7.out (below_grown b8) (fun k _ => by simp))
  have OT8 := Lib.hid (row_kept OT7.out (below_grown b8) (fun k _ => by simp))
  clear b8
  clear OT8
  go_wp2_with fail
  refine (r_toIntS _ _ _ zs _ HM.out hm (HI.out.below D8.out)).mono ?_; rintro e w9 ⟨a9, c9, rfl, o9, g9⟩
  have z9 := g9.size
  have D9 := Lib.hid (Below.step D8.out (grown_below g9) (by omega))
  have OX9 := Lib.hid (row_kept OX8.out g9 (fun k _ => by simp))
  have OV9 := Lib.hid (row_kept OV8.out g9 (fun k _ => by simp))
  have OT9 := Lib.hid o9
  have LT := Lib.hid (fun k hk => o9.lt k hk)
  clear g9 o9
  go_wp2_with fail
  refine (c_eqIntS _ _ _ _ _ zs _ HM.out hm (row_vals OV9.out).ints (row_vals OT9.out).ints).mono ?_; rintro e w10 ⟨rfl, b10⟩
  have z10 := b10.size
  have D10 := Lib.hid (Below.step D9.out (b10) (by omega))
  have OX10 := Lib.hid (row_kept OX9.out (below_grown b10) (fun k _ => by simp))
  have OV10 := Lib.hid (row_kept OV9.out (below_grown b10) (fun k _ => by simp))
  have OT10 := Lib.hid (row_kept OT9.out (below_grown b10) (fun k _ => by simp))
  clear b10
  clear OT10
  go_wp2_with fail
  go_ret
  exact ⟨rfl, D10.out⟩
end Go.Proofs.Ytdpmlkigmadajaa
