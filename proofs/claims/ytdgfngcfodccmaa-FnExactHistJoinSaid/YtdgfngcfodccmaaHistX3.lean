/- The walk of the exact law of HistJoin: true for all arguments. No condition. Written by wip/exjoin.py. -/
import Derived.Test.YtdgfngcfodccmaaHistK
namespace Go.Proofs.Ytdgfngcfodccmaa
open Go.RowKit
set_option maxHeartbeats 2000000 in
set_option maxRecDepth 2000 in
theorem walkExactHistJoin (a : Option Addr) (n cap : Nat) (z : List Int) (a' : Option Addr) (m cap' : Nat) (z' : List Int) (w : World) (w0 : IsRow .i64 w a n cap z) (w0' : IsRow .i64 w a' m cap' z') :
    Calls Try.prog 4 #[.slice a n cap, .slice a' m cap'] w fun e w' => e = .returned (.bool true) ∧ Below w.heap.size w w' := by
  by_cases hbig : 1048576 < n
  · have hb' : (1048576 : Int) < (n : Int) := by omega
    go_enter Try.func4, Try.ntmps4
    go_wp2
    go_ret
    exact ⟨rfl, Below.refl _ _⟩
  have hn : n ≤ 1048576 := by omega
  have hn' : (n : Int) ≤ 1048576 := by omega
  by_cases hbig2 : 1048576 < m
  · have hb' : (1048576 : Int) < (m : Int) := by omega
    go_enter Try.func4, Try.ntmps4
    go_wp2
    go_ret
    exact ⟨rfl, Below.refl _ _⟩
  have hm : m ≤ 1048576 := by omega
  have hm' : (m : Int) ≤ 1048576 := by omega
  obtain ⟨hI, hL⟩ := w0.ints
  obtain ⟨hJ, hM⟩ := w0'.ints
  generalize z.take n = xs at hI hL
  generalize z'.take m = ys at hJ hM
  clear w0 w0' hbig hbig2
  have HI := Lib.hid hI
  have HL := Lib.hid hL
  have HJ := Lib.hid hJ
  have HM := Lib.hid hM
  have hlen : (joinV xs ys).length ≤ 13 := by
    unfold joinV
    split
    · rw [sums_len]; exact Nat.le_refl _
    · simp
  clear hI hL hJ hM
  go_enter Try.func4, Try.ntmps4
  go_wp2_with fail
  refine (c_toIntS _ _ _ xs _ HL.out hn HI.out).mono ?_; rintro e w1 ⟨g1, rfl, o1, gr1⟩
  have z1 := World.grownBy.size gr1
  have D1 := Lib.hid (Below.step (Below.refl w.heap.size w) (grown_below gr1) (by omega))
  have P_1 := Lib.hid o1
  obtain ⟨Pl, Ph⟩ := o1.lt g1 rfl
  clear gr1 o1
  have HB1 := Lib.hid (HJ.out.below D1.out)
  go_wp2_with fail
  refine (c_toIntS _ _ _ ys _ HM.out hm HB1.out).mono ?_; rintro e w2 ⟨g2, rfl, o2, gr2⟩
  have z2 := World.grownBy.size gr2
  have D2 := Lib.hid (Below.step D1.out (grown_below gr2) (by omega))
  have P_2 := Lib.hid (own_kept P_1.out gr2 (fun k _ => by simp))
  have Q_2 := Lib.hid o2
  obtain ⟨Ql, Qh⟩ := o2.lt g2 rfl
  clear gr2 o2
  go_wp2_with fail
  refine (s_HistJoin _ _ _ xs _ _ _ ys _ HL.out hn (ownsRow.ints P_2.out) HM.out hm (ownsRow.ints Q_2.out)).mono ?_; rintro e w3 ⟨aY, cY, rfl, o3, gr3⟩
  have z3 := World.grownBy.size gr3
  have D3 := Lib.hid (Below.step D2.out (grown_below gr3) (by omega))
  have P_3 := Lib.hid (own_kept P_2.out gr3 (fun k _ => by simp))
  have Q_3 := Lib.hid (own_kept Q_2.out gr3 (fun k _ => by simp))
  have Y_3 := Lib.hid o3
  have YB := Lib.hid (fun k hk => o3.lt k hk)
  clear gr3 o3
  have HA3 := Lib.hid (HI.out.below D3.out)
  go_wp2_with fail
  refine (c_toIntS _ _ _ xs _ HL.out hn HA3.out).mono ?_; rintro e w4 ⟨g4, rfl, o4, gr4⟩
  have z4 := World.grownBy.size gr4
  have D4 := Lib.hid (Below.step D3.out (grown_below gr4) (by omega))
  have Y_4 := Lib.hid (own_kept Y_3.out gr4 (fun k _ => by simp))
  have S_4 := Lib.hid o4
  obtain ⟨Sl, Sh⟩ := o4.lt g4 rfl
  clear gr4 o4
  have HB4 := Lib.hid (HJ.out.below D4.out)
  go_wp2_with fail
  refine (c_toIntS _ _ _ ys _ HM.out hm HB4.out).mono ?_; rintro e w5 ⟨g5, rfl, o5, gr5⟩
  have z5 := World.grownBy.size gr5
  have D5 := Lib.hid (Below.step D4.out (grown_below gr5) (by omega))
  have Y_5 := Lib.hid (own_kept Y_4.out gr5 (fun k _ => by simp))
  have S_5 := Lib.hid (own_kept S_4.out gr5 (fun k _ => by simp))
  have T_5 := Lib.hid o5
  obtain ⟨Tl, Th⟩ := o5.lt g5 rfl
  clear gr5 o5
  go_wp2_with fail
  refine (c_HistJoin _ _ _ xs _ _ _ ys _ HL.out hn (ownsRow.ints S_5.out) HM.out hm (ownsRow.ints T_5.out)).mono ?_; rintro e w6 ⟨aX, cX, rfl, o6, gr6⟩
  have z6 := World.grownBy.size gr6
  have D6 := Lib.hid (Below.step D5.out (grown_below gr6) (by omega))
  have Y_6 := Lib.hid (own_kept Y_5.out gr6 (fun k _ => by simp))
  have S_6 := Lib.hid (own_kept S_5.out gr6 (fun k _ => by simp))
  have T_6 := Lib.hid (own_kept T_5.out gr6 (fun k _ => by simp))
  have X_6 := Lib.hid o6
  have XB := Lib.hid (fun k hk => o6.lt k hk)
  clear gr6 o6
  go_wp2_with fail
  refine (c_eqIntS _ _ _ _ _ (joinV xs ys) _ rfl (by omega) (own_ints X_6.out).1 (own_ints Y_6.out).1).mono ?_; rintro e w7 ⟨rfl, b7⟩
  have z7 := World.grownBy.size (below_grown b7)
  have D7 := Lib.hid (Below.step D6.out (grown_below (below_grown b7)) (by omega))
  have Y_7 := Lib.hid (own_kept Y_6.out (below_grown b7) (fun k _ => by simp))
  have S_7 := Lib.hid (own_kept S_6.out (below_grown b7) (fun k _ => by simp))
  have T_7 := Lib.hid (own_kept T_6.out (below_grown b7) (fun k _ => by simp))
  have X_7 := Lib.hid (own_kept X_6.out (below_grown b7) (fun k _ => by simp))
  clear b7
  have HA7 := Lib.hid (HI.out.below D7.out)
  go_wp2_with fail
  refine (c_toIntS _ _ _ xs _ HL.out hn HA7.out).mono ?_; rintro e w8 ⟨g8, rfl, o8, gr8⟩
  have z8 := World.grownBy.size gr8
  have D8 := Lib.hid (Below.step D7.out (grown_below gr8) (by omega))
  have Y_8 := Lib.hid (own_kept Y_7.out gr8 (fun k _ => by simp))
  have S_8 := Lib.hid (own_kept S_7.out gr8 (fun k _ => by simp))
  have T_8 := Lib.hid (own_kept T_7.out gr8 (fun k _ => by simp))
  have X_8 := Lib.hid (own_kept X_7.out gr8 (fun k _ => by simp))
  have U_8 := Lib.hid o8
  obtain ⟨Ul, Uh⟩ := o8.lt g8 rfl
  clear gr8 o8
  go_wp2_with fail
  refine (c_eqIntS _ _ _ _ _ xs _ HL.out hn (ownsRow.ints S_8.out) (ownsRow.ints U_8.out)).mono ?_; rintro e w9 ⟨rfl, b9⟩
  have z9 := World.grownBy.size (below_grown b9)
  have D9 := Lib.hid (Below.step D8.out (grown_below (below_grown b9)) (by omega))
  have Y_9 := Lib.hid (own_kept Y_8.out (below_grown b9) (fun k _ => by simp))
  have S_9 := Lib.hid (own_kept S_8.out (below_grown b9) (fun k _ => by simp))
  have T_9 := Lib.hid (own_kept T_8.out (below_grown b9) (fun k _ => by simp))
  have X_9 := Lib.hid (own_kept X_8.out (below_grown b9) (fun k _ => by simp))
  have U_9 := Lib.hid (own_kept U_8.out (below_grown b9) (fun k _ => by simp))
  clear b9
  have HB9 := Lib.hid (HJ.out.below D9.out)
  go_wp2_with fail
  refine (c_toIntS _ _ _ ys _ HM.out hm HB9.out).mono ?_; rintro e w10 ⟨g10, rfl, o10, gr10⟩
  have z10 := World.grownBy.size gr10
  have D10 := Lib.hid (Below.step D9.out (grown_below gr10) (by omega))
  have Y_10 := Lib.hid (own_kept Y_9.out gr10 (fun k _ => by simp))
  have S_10 := Lib.hid (own_kept S_9.out gr10 (fun k _ => by simp))
  have T_10 := Lib.hid (own_kept T_9.out gr10 (fun k _ => by simp))
  have X_10 := Lib.hid (own_kept X_9.out gr10 (fun k _ => by simp))
  have V_10 := Lib.hid o10
  obtain ⟨Vl, Vh⟩ := o10.lt g10 rfl
  clear gr10 o10
  go_wp2_with fail
  refine (c_eqIntS _ _ _ _ _ ys _ HM.out hm (ownsRow.ints T_10.out) (ownsRow.ints V_10.out)).mono ?_; rintro e w11 ⟨rfl, b11⟩
  have z11 := World.grownBy.size (below_grown b11)
  have D11 := Lib.hid (Below.step D10.out (grown_below (below_grown b11)) (by omega))
  have Y_11 := Lib.hid (own_kept Y_10.out (below_grown b11) (fun k _ => by simp))
  have S_11 := Lib.hid (own_kept S_10.out (below_grown b11) (fun k _ => by simp))
  have T_11 := Lib.hid (own_kept T_10.out (below_grown b11) (fun k _ => by simp))
  have X_11 := Lib.hid (own_kept X_10.out (below_grown b11) (fun k _ => by simp))
  have V_11 := Lib.hid (own_kept V_10.out (below_grown b11) (fun k _ => by simp))
  clear b11
  go_wp2_with fail
  refine (c_markIntS _ g4 n n 1 xs _ hn (by omega) (by omega) S_11.out).mono ?_; rintro e w12 ⟨rfl, o12, gr12⟩
  have z12 := gr12.size
  have D12 := Lib.hid (Below.grown D11.out gr12 (by omega) (fun k hk => by have e2 : g4 = k := (by simpa using hk); omega))
  have Y_12 := Lib.hid (own_kept Y_11.out gr12 (fun k hk => by have := YB.out k hk; simp; omega))
  have T_12 := Lib.hid (own_kept T_11.out gr12 (fun k hk h => by have e1 := Option.some.inj h; have e2 : g5 = k := (by simpa [Value.ownBlock] using hk); omega))
  have X_12 := Lib.hid (own_kept X_11.out gr12 (fun k hk => by have := XB.out k hk; simp; omega))
  clear gr12 o12
  go_wp2_with fail
  refine (c_markIntS _ g5 m m (1 + (n : Int)) ys _ hm (by omega) (by omega) T_12.out).mono ?_; rintro e w13 ⟨rfl, o13, gr13⟩
  have z13 := gr13.size
  have D13 := Lib.hid (Below.grown D12.out gr13 (by omega) (fun k hk => by have e2 : g5 = k := (by simpa using hk); omega))
  have Y_13 := Lib.hid (own_kept Y_12.out gr13 (fun k hk => by have := YB.out k hk; simp; omega))
  have X_13 := Lib.hid (own_kept X_12.out gr13 (fun k hk => by have := XB.out k hk; simp; omega))
  clear gr13 o13
  have hn1 : ¬ (1 + (n : Int) + (m : Int) < 0) := by omega
  go_wp2_with fail
  refine (c_eqIntS _ _ _ _ _ (joinV xs ys) _ rfl (by omega) (own_ints X_13.out).1 (own_ints Y_13.out).1).mono ?_; rintro e w14 ⟨rfl, b14⟩
  have z14 := World.grownBy.size (below_grown b14)
  have D14 := Lib.hid (Below.step D13.out (grown_below (below_grown b14)) (by omega))
  have Y_14 := Lib.hid (own_kept Y_13.out (below_grown b14) (fun k _ => by simp))
  have X_14 := Lib.hid (own_kept X_13.out (below_grown b14) (fun k _ => by simp))
  clear b14
  go_wp2_with fail
  refine (c_markV _ (joinV xs ys).length aX cX 1 (joinV xs ys) _ (by omega) (by omega) (by omega) X_14.out).mono ?_; rintro e w15 ⟨rfl, o15, gr15⟩
  have z15 := gr15.size
  have D15 := Lib.hid (Below.grown D14.out gr15 (by omega) (fun k hk => by have := XB.out k hk; omega))
  have Y_15 := Lib.hid (own_kept Y_14.out gr15 (fun k hk h => by have := YB.out k hk; have := XB.out k h; omega))
  have X_15 := Lib.hid o15
  clear gr15 o15
  go_wp2_with fail
  refine (c_heldIntS aX (joinV xs ys).length cX 1 _ (by omega) (by omega) (by omega) (own_ints X_15.out).1).mono ?_; rintro e w' ⟨rfl, rfl⟩
  have hl1 : ¬ (1 + ((joinV xs ys).length : Int) < 0) := by omega
  have HA15 := Lib.hid (HI.out.below D15.out)
  go_wp2_with fail
  refine (c_toIntS _ _ _ xs _ HL.out hn HA15.out).mono ?_; rintro e w16 ⟨g16, rfl, o16, gr16⟩
  have z16 := World.grownBy.size gr16
  have D16 := Lib.hid (Below.step D15.out (grown_below gr16) (by omega))
  have Y_16 := Lib.hid (own_kept Y_15.out gr16 (fun k _ => by simp))
  have X_16 := Lib.hid (own_kept X_15.out gr16 (fun k _ => by simp))
  have W_16 := Lib.hid o16
  obtain ⟨Wl, Wh⟩ := o16.lt g16 rfl
  clear gr16 o16
  have HB16 := Lib.hid (HJ.out.below D16.out)
  go_wp2_with fail
  refine (c_toIntS _ _ _ ys _ HM.out hm HB16.out).mono ?_; rintro e w17 ⟨g17, rfl, o17, gr17⟩
  have z17 := World.grownBy.size gr17
  have D17 := Lib.hid (Below.step D16.out (grown_below gr17) (by omega))
  have Y_17 := Lib.hid (own_kept Y_16.out gr17 (fun k _ => by simp))
  have X_17 := Lib.hid (own_kept X_16.out gr17 (fun k _ => by simp))
  have W_17 := Lib.hid (own_kept W_16.out gr17 (fun k _ => by simp))
  have R_17 := Lib.hid o17
  obtain ⟨Rl, Rh⟩ := o17.lt g17 rfl
  clear gr17 o17
  go_wp2_with fail
  refine (c_HistJoin _ _ _ xs _ _ _ ys _ HL.out hn (ownsRow.ints W_17.out) HM.out hm (ownsRow.ints R_17.out)).mono ?_; rintro e w18 ⟨aZ, cZ, rfl, o18, gr18⟩
  have z18 := World.grownBy.size gr18
  have D18 := Lib.hid (Below.step D17.out (grown_below gr18) (by omega))
  have Y_18 := Lib.hid (own_kept Y_17.out gr18 (fun k _ => by simp))
  have X_18 := Lib.hid (own_kept X_17.out gr18 (fun k _ => by simp))
  have W_18 := Lib.hid (own_kept W_17.out gr18 (fun k _ => by simp))
  have R_18 := Lib.hid (own_kept R_17.out gr18 (fun k _ => by simp))
  have Z_18 := Lib.hid o18
  have ZB := Lib.hid (fun k hk => o18.lt k hk)
  clear gr18 o18
  go_wp2_with fail
  refine (c_eqIntS _ _ _ _ _ (joinV xs ys) _ rfl (by omega) (own_ints Z_18.out).1 (own_ints Y_18.out).1).mono ?_; rintro e w19 ⟨rfl, b19⟩
  have z19 := World.grownBy.size (below_grown b19)
  have D19 := Lib.hid (Below.step D18.out (grown_below (below_grown b19)) (by omega))
  have Y_19 := Lib.hid (own_kept Y_18.out (below_grown b19) (fun k _ => by simp))
  have X_19 := Lib.hid (own_kept X_18.out (below_grown b19) (fun k _ => by simp))
  have Z_19 := Lib.hid (own_kept Z_18.out (below_grown b19) (fun k _ => by simp))
  clear b19
  go_wp2_with fail
  refine (c_heldIntS aX (joinV xs ys).length cX 1 _ (by omega) (by omega) (by omega) (own_ints X_19.out).1).mono ?_; rintro e w' ⟨rfl, rfl⟩
  go_wp2_with fail
  go_ret
  exact ⟨rfl, D19.out⟩
end Go.Proofs.Ytdgfngcfodccmaa
