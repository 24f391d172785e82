/- The walk of the exact law of BreakerRun: true for all arguments. No condition. The text is written by a program (wip/ex_brk.py). -/
import Derived.Test.YtdpmlkigmadajaaBrkQ
import Derived.Test.YtdpmlkigmadajaaNew
namespace Go.Proofs.Ytdpmlkigmadajaa
open Go.RowKit
theorem r_toIntS (a : Option Addr) (n cap : Nat) (xs : List Int) (w : World) (hxs : xs.length = n) (hn : n ≤ 1048576) (h : Ints w a xs) :
    Calls Try.prog 30 #[.slice a n cap] w (RetRow w 3 1 n (xs.map (Value.int .i64))) :=
  (c_toIntS a n cap xs w hxs hn h).mono fun _ _ ⟨g, h1, h2, h3⟩ => ⟨some ⟨g, 0, none⟩, n, h1, h2, h3⟩
theorem r_markIntS (base n : Nat) (a : Option Addr) (cap : Nat) (k : Int) (xs : List Int) (w : World) (hn : n ≤ 1048576) (hk0 : 0 ≤ k) (hk : k ≤ 1000000000) (h : w.ownsRow base 3 1 (.slice a n cap) n (xs.map (Value.int .i64))) :
    Calls Try.prog 33 #[.slice a n cap, .int .i64 k] w fun e w' => e = .returned (.int .i64 (k + (n : Int))) ∧
      w'.ownsRow base 3 1 (.slice a n cap) n ((upFrom k n).map (Value.int .i64)) ∧ w.grownBy w' (Value.slice a n cap).ownBlock := c_markV base n a cap k xs w hn hk0 hk h
set_option maxHeartbeats 1000000 in
theorem walkExactBreakerRun (a : Option Addr) (n cap : Nat) (z : List Int) (most pause : Int) (w : World) (w0 : IsRow .i64 w a n cap z) (_ : (Lit.int .i64 most).wf = true) (_ : (Lit.int .i64 pause).wf = true) :
    Calls Try.prog 8 #[.slice a n cap, .int .i64 most, .int .i64 pause] w fun e w' => e = .returned (.bool true) ∧ Below w.heap.size w w' := by
  by_cases hbig : 1048576 < n
  · have hb' : (1048576 : Int) < (n : Int) := by omega
    go_enter Try.func8, Try.ntmps8
    go_wp2
    go_ret
    exact ⟨rfl, Below.refl _ _⟩
  have hn : n ≤ 1048576 := by omega
  have hn' : (n : Int) ≤ 1048576 := by omega
  obtain ⟨hI, hL⟩ := w0.ints
  generalize z.take n = xs at hI hL
  clear w0 hbig
  have HI := Lib.hid hI
  have HL := Lib.hid hL
  have hlen : (runB xs most pause).length ≤ 1048576 := by
    unfold runB
    split
    · rw [bout_len, hL]; exact hn
    · simp
  have HN := Lib.hid hlen
  clear hI hL hlen
  go_enter Try.func8, Try.ntmps8
  go_wp2_with fail
  refine (r_toIntS _ _ _ xs _ HL.out hn (HI.out)).mono ?_; rintro e w1 ⟨a1, c1, rfl, o1, g1⟩
  have z1 := g1.size
  have D1 := Lib.hid (grown_below g1)
  have OA1 := Lib.hid o1
  have LA := Lib.hid (fun k hk => o1.lt k hk)
  clear g1 o1
  go_wp2_with fail
  refine (s_BreakerRun _ _ _ xs most pause _ HL.out hn (row_vals OA1.out).ints).mono ?_; rintro e w2 ⟨a2, c2, rfl, o2, g2⟩
  have z2 := g2.size
  have D2 := Lib.hid (Below.step D1.out (grown_below g2) (by omega))
  have OA2 := Lib.hid (row_kept OA1.out g2 (fun k _ => by simp))
  have OY2 := Lib.hid o2
  have LY := Lib.hid (fun k hk => o2.lt k hk)
  clear g2 o2
  clear OA2
  go_wp2_with fail
  refine (r_toIntS _ _ _ xs _ HL.out hn (HI.out.below D2.out)).mono ?_; rintro e w3 ⟨a3, c3, rfl, o3, g3⟩
  have z3 := g3.size
  have D3 := Lib.hid (Below.step D2.out (grown_below g3) (by omega))
  have OY3 := Lib.hid (row_kept OY2.out g3 (fun k _ => by simp))
  have OX3 := Lib.hid o3
  have LX := Lib.hid (fun k hk => o3.lt k hk)
  clear g3 o3
  go_wp2_with fail
  refine (c_BreakerRun _ _ _ xs most pause _ HL.out hn (row_vals OX3.out).ints).mono ?_; rintro e w4 ⟨a4, c4, rfl, o4, g4⟩
  have z4 := g4.size
  have D4 := Lib.hid (Below.step D3.out (grown_below g4) (by omega))
  have OY4 := Lib.hid (row_kept OY3.out g4 (fun k _ => by simp))
  have OX4 := Lib.hid (row_kept OX3.out g4 (fun k _ => by simp))
  have OG4 := Lib.hid o4
  have LG := Lib.hid (fun k hk => o4.lt k hk)
  clear g4 o4
  go_wp2_with fail
  refine (c_eqBoolS _ _ _ _ _ (runB xs most pause) _ rfl HN.out (row_vals OG4.out) (row_vals OY4.out)).mono ?_; rintro e w5 ⟨rfl, b5⟩
  have z5 := b5.size
  have D5 := Lib.hid (Below.step D4.out (b5) (by omega))
  have OY5 := Lib.hid (row_kept OY4.out (below_grown b5) (fun k _ => by simp))
  have OX5 := Lib.hid (row_kept OX4.out (below_grown b5) (fun k _ => by simp))
  have OG5 := Lib.hid (row_kept OG4.out (below_grown b5) (fun k _ => by simp))
  clear b5
  go_wp2_with fail
  refine (r_toIntS _ _ _ xs _ HL.out hn (HI.out.below D5.out)).mono ?_; rintro e w6 ⟨a6, c6, rfl, o6, g6⟩
  have z6 := g6.size
  have D6 := Lib.hid (Below.step D5.out (grown_below g6) (by omega))
  have OY6 := Lib.hid (row_kept OY5.out g6 (fun k _ => by simp))
  have OX6 := Lib.hid (row_kept OX5.out g6 (fun k _ => by simp))
  have OG6 := Lib.hid (row_kept OG5.out g6 (fun k _ => by simp))
  have OT6 := Lib.hid o6
  have LT := Lib.hid (fun k hk => o6.lt k hk)
  clear g6 o6
  go_wp2_with fail
  refine (c_eqIntS _ _ _ _ _ xs _ HL.out hn (row_vals OX6.out).ints (row_vals OT6.out).ints).mono ?_; rintro e w7 ⟨rfl, b7⟩
  have z7 := b7.size
  have D7 := Lib.hid (Below.step D6.out (b7) (by omega))
  have OY7 := Lib.hid (row_kept OY6.out (below_grown b7) (fun k _ => by simp))
  have OX7 := Lib.hid (row_kept OX6.out (below_grown b7) (fun k _ => by simp))
  have OG7 := Lib.hid (row_kept OG6.out (below_grown b7) (fun k _ => by simp))
  have OT7 := Lib.hid (row_kept OT6.out (below_grown b7) (fun k _ => by simp))
  clear b7
  clear OT7
  go_wp2_with fail
  refine (r_markIntS _ n _ _ 1 xs _ hn (by omega) (by omega) OX7.out).mono ?_; rintro e w8 ⟨rfl, o8, g8⟩
  have z8 := g8.size
  have D8 := Lib.hid (D7.out.grown g8 (by omega) (fun k hk => by have := (LX.out k hk).1; omega))
  have OY8 := Lib.hid (row_kept OY7.out g8 (fun k hk h => by have := LY.out k hk; have := LX.out k h; omega))
  have OG8 := Lib.hid (row_kept OG7.out g8 (fun k hk h => by have := LG.out k hk; have := LX.out k h; omega))
  have OX8 := Lib.hid o8
  clear g8 o8
  have hn1 : ¬ (1 + (n : Int) < 0) := by omega
  go_wp2_with fail
  refine (c_eqBoolS _ _ _ _ _ (runB xs most pause) _ rfl HN.out (row_vals OG8.out) (row_vals OY8.out)).mono ?_; rintro e w9 ⟨rfl, b9⟩
  have z9 := b9.size
  have D9 := Lib.hid (Below.step D8.out (b9) (by omega))
  have OY9 := Lib.hid (row_kept OY8.out (below_grown b9) (fun k _ => by simp))
  have OX9 := Lib.hid (row_kept OX8.out (below_grown b9) (fun k _ => by simp))
  have OG9 := Lib.hid (row_kept OG8.out (below_grown b9) (fun k _ => by simp))
  clear b9
  go_wp2_with fail
  refine (c_markBoolS _ _ _ _ 1 _ _ HN.out (by omega) (by omega) OG9.out).mono ?_; rintro e w10 ⟨rfl, o10, g10⟩
  have z10 := g10.size
  have D10 := Lib.hid (D9.out.grown g10 (by omega) (fun k hk => by have := (LG.out k hk).1; omega))
  have OY10 := Lib.hid (row_kept OY9.out g10 (fun k hk h => by have := LY.out k hk; have := LG.out k h; omega))
  have OX10 := Lib.hid (row_kept OX9.out g10 (fun k hk h => by have := LX.out k hk; have := LG.out k h; omega))
  have OG10 := Lib.hid o10
  clear g10 o10
  go_wp2_with fail
  refine (c_heldBoolS _ _ _ 1 _ HN.out (by omega) (by omega) (row_vals OG10.out)).mono ?_; rintro e w' ⟨rfl, rfl⟩
  have hl1 : ¬ (1 + ((runB xs most pause).length : Int) < 0) := by omega
  go_wp2_with fail
  refine (r_toIntS _ _ _ xs _ HL.out hn (HI.out.below D10.out)).mono ?_; rintro e w11 ⟨a11, c11, rfl, o11, g11⟩
  have z11 := g11.size
  have D11 := Lib.hid (Below.step D10.out (grown_below g11) (by omega))
  have OY11 := Lib.hid (row_kept OY10.out g11 (fun k _ => by simp))
  have OX11 := Lib.hid (row_kept OX10.out g11 (fun k _ => by simp))
  have OG11 := Lib.hid (row_kept OG10.out g11 (fun k _ => by simp))
  have OU11 := Lib.hid o11
  have LU := Lib.hid (fun k hk => o11.lt k hk)
  clear g11 o11
  go_wp2_with fail
  refine (c_BreakerRun _ _ _ xs most pause _ HL.out hn (row_vals OU11.out).ints).mono ?_; rintro e w12 ⟨a12, c12, rfl, o12, g12⟩
  have z12 := g12.size
  have D12 := Lib.hid (Below.step D11.out (grown_below g12) (by omega))
  have OY12 := Lib.hid (row_kept OY11.out g12 (fun k _ => by simp))
  have OX12 := Lib.hid (row_kept OX11.out g12 (fun k _ => by simp))
  have OG12 := Lib.hid (row_kept OG11.out g12 (fun k _ => by simp))
  have OU12 := Lib.hid (row_kept OU11.out g12 (fun k _ => by simp))
  have OH12 := Lib.hid o12
  have LH := Lib.hid (fun k hk => o12.lt k hk)
  clear g12 o12
  go_wp2_with fail
  refine (c_eqBoolS _ _ _ _ _ (runB xs most pause) _ rfl HN.out (row_vals OH12.out) (row_vals OY12.out)).mono ?_; rintro e w13 ⟨rfl, b13⟩
  have z13 := b13.size
  have D13 := Lib.hid (Below.step D12.out (b13) (by omega))
  have OY13 := Lib.hid (row_kept OY12.out (below_grown b13) (fun k _ => by simp))
  have OX13 := Lib.hid (row_kept OX12.out (below_grown b13) (fun k _ => by simp))
  have OG13 := Lib.hid (row_kept OG12.out (below_grown b13) (fun k _ => by simp))
  have OU13 := Lib.hid (row_kept OU12.out (below_grown b13) (fun k _ => by simp))
  have OH13 := Lib.hid (row_kept OH12.out (below_grown b13) (fun k _ => by simp))
  clear b13
  go_wp2_with fail
  refine (c_heldBoolS _ _ _ 1 _ HN.out (by omega) (by omega) (row_vals OG13.out)).mono ?_; rintro e w' ⟨rfl, rfl⟩
  go_wp2_with fail
  go_ret
  exact ⟨rfl, D13.out⟩
end Go.Proofs.Ytdpmlkigmadajaa
