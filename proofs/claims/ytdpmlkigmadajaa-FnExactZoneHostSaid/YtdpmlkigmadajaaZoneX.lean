/- The walk of the exact law of ZoneHosts: true for all arguments. No condition. The text is written by a program (wip/ex_zone.py). -/
import Derived.Test.YtdpmlkigmadajaaHostM
import Derived.Test.YtdpmlkigmadajaaRowI
namespace Go.Proofs.Ytdpmlkigmadajaa
open Go.RowKit
/-- What the walk is told of a pool that came in. -/
def IsHosts (w : World) (a : Option Addr) (n cap : Nat) (hs : List H3) : Prop := hs.length = n ∧ n ≤ cap ∧ cap ≤ maxLen ∧ Hosts w a hs
set_option maxHeartbeats 2000000 in
theorem walkExactZoneHosts (a : Option Addr) (n cap : Nat) (hs : List H3) (a' : Option Addr) (n' cap' : Nat) (z : List Int) (zn : Int) (w : World) (w0 : IsHosts w a n cap hs) (w1 : IsRow .i64 w a' n' cap' z) (_ : (Lit.int .i64 zn).wf = true) :
    Calls Try.prog 9 #[.slice a n cap, .slice a' n' cap', .int .i64 zn] w fun e w' => e = .returned (.bool true) ∧ Below w.heap.size w w' := by
  by_cases hbig : 1048576 < n'
  · have hb' : (1048576 : Int) < (n' : Int) := by omega
    go_enter Try.func9, Try.ntmps9
    go_wp2
    go_ret
    exact ⟨rfl, Below.refl _ _⟩
  have hm : n' ≤ 1048576 := by omega
  have hm' : (n' : Int) ≤ 1048576 := by omega
  obtain ⟨hI, hM⟩ := w1.ints
  generalize z.take n' = zs at hI hM
  obtain ⟨hL, hnc, hcm, hP⟩ := w0
  clear w1 hbig
  have HI := Lib.hid hI
  have HM := Lib.hid hM
  have HP := Lib.hid hP
  have HL := Lib.hid hL
  have HCM := Lib.hid (Nat.le_trans hnc hcm)
  clear hI hM hP hL hnc hcm
  by_cases hbig : 1048576 < n
  · have hb' : (1048576 : Int) < (n : Int) := by omega
    go_enter Try.func9, Try.ntmps9
    go_wp2_with fail
    refine (c_szHostS_no _ _ _ _ _ HCM.out (by omega) (by omega) hb').mono ?_; rintro e w' ⟨rfl, rfl⟩
    go_wp2_with fail
    go_ret
    exact ⟨rfl, Below.refl _ _⟩
  have hn : n ≤ 1048576 := by omega
  have hn0 : (n : Int) ≤ 1048576 := by omega
  have hlen : (zoneV hs zs zn).length ≤ 1048576 := by have := zoneV_len hs zs zn; have := HL.out; omega
  have HN := Lib.hid hlen
  clear hlen hbig
  go_enter Try.func9, Try.ntmps9
  go_wp2_with fail
  refine (c_szHostS _ _ _ _ _ (by omega) hn0).mono ?_; rintro e w' ⟨rfl, rfl⟩
  have hsz : ¬ (1048576 - (n : Int) < 0) := by omega
  go_wp2_with fail
  refine (c_toHostS _ _ _ hs _ HL.out hn HP.out).mono ?_; rintro e w1 ⟨a1, c1, rfl, o1, g1⟩
  have z1 := g1.size
  have D1 := Lib.hid (grown_below g1)
  have OA1 := Lib.hid o1
  have LA := Lib.hid (fun k hk => o1.lt k hk)
  clear g1 o1
  go_wp2_with fail
  refine (r_toIntS _ _ _ zs _ HM.out hm (HI.out.below D1.out)).mono ?_; rintro e w2 ⟨a2, c2, rfl, o2, g2⟩
  have z2 := g2.size
  have D2 := Lib.hid (Below.step D1.out (grown_below g2) (by omega))
  have OA2 := Lib.hid (row_kept OA1.out g2 (fun k _ => by simp))
  have OB2 := Lib.hid o2
  have LB := Lib.hid (fun k hk => o2.lt k hk)
  clear g2 o2
  go_wp2_with fail
  refine (s_ZoneHosts _ _ _ hs _ _ _ zs zn _ HL.out hn (row_vals OA2.out) HM.out hm (row_vals OB2.out).ints).mono ?_; rintro e w3 ⟨a3, c3, rfl, o3, g3⟩
  have z3 := g3.size
  have D3 := Lib.hid (Below.step D2.out (grown_below g3) (by omega))
  have OA3 := Lib.hid (row_kept OA2.out g3 (fun k _ => by simp))
  have OB3 := Lib.hid (row_kept OB2.out g3 (fun k _ => by simp))
  have OY3 := Lib.hid o3
  have LY := Lib.hid (fun k hk => o3.lt k hk)
  clear g3 o3
  clear OA3
  clear OB3
  go_wp2_with fail
  refine (c_toHostS _ _ _ hs _ HL.out hn (HP.out.below D3.out)).mono ?_; rintro e w4 ⟨a4, c4, rfl, o4, g4⟩
  have z4 := g4.size
  have D4 := Lib.hid (Below.step D3.out (grown_below g4) (by omega))
  have OY4 := Lib.hid (row_kept OY3.out g4 (fun k _ => by simp))
  have OX4 := Lib.hid o4
  have LX := Lib.hid (fun k hk => o4.lt k hk)
  clear g4 o4
  go_wp2_with fail
  refine (r_toIntS _ _ _ zs _ HM.out hm (HI.out.below D4.out)).mono ?_; rintro e w5 ⟨a5, c5, rfl, o5, g5⟩
  have z5 := g5.size
  have D5 := Lib.hid (Below.step D4.out (grown_below g5) (by omega))
  have OY5 := Lib.hid (row_kept OY4.out g5 (fun k _ => by simp))
  have OX5 := Lib.hid (row_kept OX4.out g5 (fun k _ => by simp))
  have OV5 := Lib.hid o5
  have LV := Lib.hid (fun k hk => o5.lt k hk)
  clear g5 o5
  go_wp2_with fail
  refine (c_ZoneHosts _ _ _ hs _ _ _ zs zn _ HL.out hn (row_vals OX5.out) HM.out hm (row_vals OV5.out).ints).mono ?_; rintro e w6 ⟨a6, c6, rfl, o6, g6⟩
  have z6 := g6.size
  have D6 := Lib.hid (Below.step D5.out (grown_below g6) (by omega))
  have OY6 := Lib.hid (row_kept OY5.out g6 (fun k _ => by simp))
  have OX6 := Lib.hid (row_kept OX5.out g6 (fun k _ => by simp))
  have OV6 := Lib.hid (row_kept OV5.out g6 (fun k _ => by simp))
  have OG6 := Lib.hid o6
  have LG := Lib.hid (fun k hk => o6.lt k hk)
  clear g6 o6
  go_wp2_with fail
  refine (c_eqHostS _ _ _ _ _ (zoneV hs zs zn) _ rfl HN.out (row_vals OG6.out) (row_vals OY6.out)).mono ?_; rintro e w7 ⟨rfl, b7⟩
  have z7 := b7.size
  have D7 := Lib.hid (Below.step D6.out (b7) (by omega))
  have OY7 := Lib.hid (row_kept OY6.out (below_grown b7) (fun k _ => by simp))
  have OX7 := Lib.hid (row_kept OX6.out (below_grown b7) (fun k _ => by simp))
  have OV7 := Lib.hid (row_kept OV6.out (below_grown b7) (fun k _ => by simp))
  have OG7 := Lib.hid (row_kept OG6.out (below_grown b7) (fun k _ => by simp))
  clear b7
  go_wp2_with fail
  refine (c_toHostS _ _ _ hs _ HL.out hn (HP.out.below D7.out)).mono ?_; rintro e w8 ⟨a8, c8, rfl, o8, g8⟩
  have z8 := g8.size
  have D8 := Lib.hid (Below.step D7.out (grown_below g8) (by omega))
  have OY8 := Lib.hid (row_kept OY7.out g8 (fun k _ => by simp))
  have OX8 := Lib.hid (row_kept OX7.out g8 (fun k _ => by simp))
  have OV8 := Lib.hid (row_kept OV7.out g8 (fun k _ => by simp))
  have OG8 := Lib.hid (row_kept OG7.out g8 (fun k _ => by simp))
  have OT8 := Lib.hid o8
  have LT := Lib.hid (fun k hk => o8.lt k hk)
  clear g8 o8
  go_wp2_with fail
  refine (c_eqHostS _ _ _ _ _ hs _ HL.out hn (row_vals OX8.out) (row_vals OT8.out)).mono ?_; rintro e w9 ⟨rfl, b9⟩
  have z9 := b9.size
  have D9 := Lib.hid (Below.step D8.out (b9) (by omega))
  have OY9 := Lib.hid (row_kept OY8.out (below_grown b9) (fun k _ => by simp))
  have OX9 := Lib.hid (row_kept OX8.out (below_grown b9) (fun k _ => by simp))
  have OV9 := Lib.hid (row_kept OV8.out (below_grown b9) (fun k _ => by simp))
  have OG9 := Lib.hid (row_kept OG8.out (below_grown b9) (fun k _ => by simp))
  have OT9 := Lib.hid (row_kept OT8.out (below_grown b9) (fun k _ => by simp))
  clear b9
  clear OT9
  go_wp2_with fail
  refine (r_toIntS _ _ _ zs _ HM.out hm (HI.out.below D9.out)).mono ?_; rintro e w10 ⟨a10, c10, rfl, o10, g10⟩
  have z10 := g10.size
  have D10 := Lib.hid (Below.step D9.out (grown_below g10) (by omega))
  have OY10 := Lib.hid (row_kept OY9.out g10 (fun k _ => by simp))
  have OX10 := Lib.hid (row_kept OX9.out g10 (fun k _ => by simp))
  have OV10 := Lib.hid (row_kept OV9.out g10 (fun k _ => by simp))
  have OG10 := Lib.hid (row_kept OG9.out g10 (fun k _ => by simp))
  have OT10 := Lib.hid o10
  have LT := Lib.hid (fun k hk => o10.lt k hk)
  clear g10 o10
  go_wp2_with fail
  refine (c_eqIntS _ _ _ _ _ zs _ HM.out hm (row_vals OV10.out).ints (row_vals OT10.out).ints).mono ?_; rintro e w11 ⟨rfl, b11⟩
  have z11 := b11.size
  have D11 := Lib.hid (Below.step D10.out (b11) (by omega))
  have OY11 := Lib.hid (row_kept OY10.out (below_grown b11) (fun k _ => by simp))
  have OX11 := Lib.hid (row_kept OX10.out (below_grown b11) (fun k _ => by simp))
  have OV11 := Lib.hid (row_kept OV10.out (below_grown b11) (fun k _ => by simp))
  have OG11 := Lib.hid (row_kept OG10.out (below_grown b11) (fun k _ => by simp))
  have OT11 := Lib.hid (row_kept OT10.out (below_grown b11) (fun k _ => by simp))
  clear b11
  clear OT11
  go_wp2_with fail
  refine (c_markHostS _ n _ _ 1 _ _ hn (by omega) (by omega) OX11.out).mono ?_; rintro e w12 ⟨rfl, o12, g12⟩
  have z12 := g12.size
  have D12 := Lib.hid (D11.out.grown g12 (by omega) (fun k hk => by have := (LX.out k hk).1; omega))
  have OY12 := Lib.hid (row_kept OY11.out g12 (fun k hk h => by have := LY.out k hk; have := LX.out k h; omega))
  have OV12 := Lib.hid (row_kept OV11.out g12 (fun k hk h => by have := LV.out k hk; have := LX.out k h; omega))
  have OG12 := Lib.hid (row_kept OG11.out g12 (fun k hk h => by have := LG.out k hk; have := LX.out k h; omega))
  have OX12 := Lib.hid o12
  clear g12 o12
  go_wp2_with fail
  refine (r_markIntS _ n' _ _ (1 + 3 * (n : Int)) zs _ hm (by omega) (by omega) OV12.out).mono ?_; rintro e w13 ⟨rfl, o13, g13⟩
  have z13 := g13.size
  have D13 := Lib.hid (D12.out.grown g13 (by omega) (fun k hk => by have := (LV.out k hk).1; omega))
  have OY13 := Lib.hid (row_kept OY12.out g13 (fun k hk h => by have := LY.out k hk; have := LV.out k h; omega))
  have OX13 := Lib.hid (row_kept OX12.out g13 (fun k hk h => by have := LX.out k hk; have := LV.out k h; omega))
  have OG13 := Lib.hid (row_kept OG12.out g13 (fun k hk h => by have := LG.out k hk; have := LV.out k h; omega))
  have OV13 := Lib.hid o13
  clear g13 o13
  have hk1 : ¬ (1 + 3 * (n : Int) + (n' : Int) < 0) := by omega
  go_wp2_with fail
  refine (c_eqHostS _ _ _ _ _ (zoneV hs zs zn) _ rfl HN.out (row_vals OG13.out) (row_vals OY13.out)).mono ?_; rintro e w14 ⟨rfl, b14⟩
  have z14 := b14.size
  have D14 := Lib.hid (Below.step D13.out (b14) (by omega))
  have OY14 := Lib.hid (row_kept OY13.out (below_grown b14) (fun k _ => by simp))
  have OX14 := Lib.hid (row_kept OX13.out (below_grown b14) (fun k _ => by simp))
  have OV14 := Lib.hid (row_kept OV13.out (below_grown b14) (fun k _ => by simp))
  have OG14 := Lib.hid (row_kept OG13.out (below_grown b14) (fun k _ => by simp))
  clear b14
  go_wp2_with fail
  refine (c_markHostS _ _ _ _ 1 _ _ HN.out (by omega) (by omega) OG14.out).mono ?_; rintro e w15 ⟨rfl, o15, g15⟩
  have z15 := g15.size
  have D15 := Lib.hid (D14.out.grown g15 (by omega) (fun k hk => by have := (LG.out k hk).1; omega))
  have OY15 := Lib.hid (row_kept OY14.out g15 (fun k hk h => by have := LY.out k hk; have := LG.out k h; omega))
  have OX15 := Lib.hid (row_kept OX14.out g15 (fun k hk h => by have := LX.out k hk; have := LG.out k h; omega))
  have OV15 := Lib.hid (row_kept OV14.out g15 (fun k hk h => by have := LV.out k hk; have := LG.out k h; omega))
  have OG15 := Lib.hid o15
  clear g15 o15
  go_wp2_with fail
  refine (c_heldHostS _ _ _ 1 _ HN.out (by omega) (by omega) (row_vals OG15.out)).mono ?_; rintro e w' ⟨rfl, rfl⟩
  have hl1 : ¬ (1 + 3 * ((zoneV hs zs zn).length : Int) < 0) := by omega
  go_wp2_with fail
  refine (c_toHostS _ _ _ hs _ HL.out hn (HP.out.below D15.out)).mono ?_; rintro e w16 ⟨a16, c16, rfl, o16, g16⟩
  have z16 := g16.size
  have D16 := Lib.hid (Below.step D15.out (grown_below g16) (by omega))
  have OY16 := Lib.hid (row_kept OY15.out g16 (fun k _ => by simp))
  have OX16 := Lib.hid (row_kept OX15.out g16 (fun k _ => by simp))
  have OV16 := Lib.hid (row_kept OV15.out g16 (fun k _ => by simp))
  have OG16 := Lib.hid (row_kept OG15.out g16 (fun k _ => by simp))
  have OA16 := Lib.hid o16
  have LA := Lib.hid (fun k hk => o16.lt k hk)
  clear g16 o16
  go_wp2_with fail
  refine (r_toIntS _ _ _ zs _ HM.out hm (HI.out.below D16.out)).mono ?_; rintro e w17 ⟨a17, c17, rfl, o17, g17⟩
  have z17 := g17.size
  have D17 := Lib.hid (Below.step D16.out (grown_below g17) (by omega))
  have OY17 := Lib.hid (row_kept OY16.out g17 (fun k _ => by simp))
  have OX17 := Lib.hid (row_kept OX16.out g17 (fun k _ => by simp))
  have OV17 := Lib.hid (row_kept OV16.out g17 (fun k _ => by simp))
  have OG17 := Lib.hid (row_kept OG16.out g17 (fun k _ => by simp))
  have OA17 := Lib.hid (row_kept OA16.out g17 (fun k _ => by simp))
  have OB17 := Lib.hid o17
  have LB := Lib.hid (fun k hk => o17.lt k hk)
  clear g17 o17
  go_wp2_with fail
  refine (c_ZoneHosts _ _ _ hs _ _ _ zs zn _ HL.out hn (row_vals OA17.out) HM.out hm (row_vals OB17.out).ints).mono ?_; rintro e w18 ⟨a18, c18, rfl, o18, g18⟩
  have z18 := g18.size
  have D18 := Lib.hid (Below.step D17.out (grown_below g18) (by omega))
  have OY18 := Lib.hid (row_kept OY17.out g18 (fun k _ => by simp))
  have OX18 := Lib.hid (row_kept OX17.out g18 (fun k _ => by simp))
  have OV18 := Lib.hid (row_kept OV17.out g18 (fun k _ => by simp))
  have OG18 := Lib.hid (row_kept OG17.out g18 (fun k _ => by simp))
  have OA18 := Lib.hid (row_kept OA17.out g18 (fun k _ => by simp))
  have OB18 := Lib.hid (row_kept OB17.out g18 (fun k _ => by simp))
  have OH18 := Lib.hid o18
  have LH := Lib.hid (fun k hk => o18.lt k hk)
  clear g18 o18
  clear OA18
  clear OB18
  go_wp2_with fail
  refine (c_eqHostS _ _ _ _ _ (zoneV hs zs zn) _ rfl HN.out (row_vals OH18.out) (row_vals OY18.out)).mono ?_; rintro e w19 ⟨rfl, b19⟩
  have z19 := b19.size
  have D19 := Lib.hid (Below.step D18.out (b19) (by omega))
  have OY19 := Lib.hid (row_kept OY18.out (below_grown b19) (fun k _ => by simp))
  have OX19 := Lib.hid (row_kept OX18.out (below_grown b19) (fun k _ => by simp))
  have OV19 := Lib.hid (row_kept OV18.out (below_grown b19) (fun k _ => by simp))
  have OG19 := Lib.hid (row_kept OG18.out (below_grown b19) (fun k _ => by simp))
  have OH19 := Lib.hid (row_kept OH18.out (below_grown b19) (fun k _ => by simp))
  clear b19
  go_wp2_with fail
  refine (c_heldHostS _ _ _ 1 _ HN.out (by omega) (by omega) (row_vals OG19.out)).mono ?_; rintro e w' ⟨rfl, rfl⟩
  go_wp2_with fail
  go_ret
  exact ⟨rfl, D19.out⟩
end Go.Proofs.Ytdpmlkigmadajaa
