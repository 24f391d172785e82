/- The walk of the law ForwardPacket: it answers true whatever bytes come in. No condition. -/
import Derived.Test.YtdkdfehlmphikaaDFw
import Derived.Test.YtdkdfehlmphikaaPfw
import Derived.Test.YtdkdfehlmphikaaFws
namespace Go.Proofs.Ytdkdfehlmphikaa
open Go.RowKit
section
variable {hs : List H3} {N R : Int} {es : List E7} {f : F5} {now d1 d2 vh : Int} {d3 : List E7}
theorem c_Fwd_r (hv : fwdT hs (N, R, es) f now = ((d1, d2, d3), vh)) (p : Option Addr) (pn pc : Nat) (a : Option Addr) (n cap : Nat) (w : World) (hps : hs.length = pn) (hpn : pn ≤ 1048576) (hP : Hosts w p hs) (hxs : es.length = n) (hn : n ≤ 1048576) (h : Ents w a es) (ha : a = none → n = 0 ∧ cap = 0) :
    Calls Try.prog 27 #[.slice p pn pc, .agg #[.int .i64 N, .int .i64 R, .slice a n cap], fvv f, .int .i64 now] w fun e w' => ∃ (a : Option Addr) (cap : Nat), e = .returned (.tuple #[.agg #[.int .i64 d1, .int .i64 d2, .slice a d3.length cap], .int .i64 vh]) ∧ w'.ownsRow w.heap.size 69 7 (.slice a d3.length cap) d3.length (eCells d3) ∧ w.grownBy w' none := by
  have := c_ForwardPacket p pn pc hs N R a n cap es f now w hps hpn hP hxs hn h ha
  rw [hv] at this
  exact this
theorem s_Fwd_r (hv : fwdT hs (N, R, es) f now = ((d1, d2, d3), vh)) (p : Option Addr) (pn pc : Nat) (a : Option Addr) (n cap : Nat) (w : World) (hps : hs.length = pn) (hpn : pn ≤ 1048576) (hP : Hosts w p hs) (hxs : es.length = n) (hn : n ≤ 1048576) (h : Ents w a es) (ha : a = none → n = 0 ∧ cap = 0) :
    Calls Try.prog 23 #[.slice p pn pc, .agg #[.int .i64 N, .int .i64 R, .slice a n cap], fvv f, .int .i64 now] w fun e w' => ∃ (a : Option Addr) (cap : Nat), e = .returned (.tuple #[.agg #[.int .i64 d1, .int .i64 d2, .slice a d3.length cap], .int .i64 vh]) ∧ w'.ownsRow w.heap.size 69 7 (.slice a d3.length cap) d3.length (eCells d3) ∧ w.grownBy w' none := by
  have := s_ForwardPacket p pn pc hs N R a n cap es f now w hps hpn hP hxs hn h ha
  rw [hv] at this
  exact this
end
set_option maxHeartbeats 4000000 in
set_option maxRecDepth 100000 in
theorem walkForwardPacket (a : Option Addr) (len cap : Nat) (z : List Int) (w : World) (w0 : IsRow .u8 w a len cap z) :
    Calls Try.prog 13 #[.slice a len cap] w fun e w' => e = .returned (.bool true) ∧ Below w.heap.size w w' := by
  obtain ⟨hcl, hcap⟩ := w0.caps
  have HC := Lib.hid w0.code
  clear w0
  have hm := hcap
  unfold maxLen at hm
  by_cases hbig : (1048576 : Int) < (len : Int)
  · go_enter Try.func13, Try.ntmps13
    go_wp2
    go_ret
    exact ⟨rfl, Below.refl _ _⟩
  go_enter Try.func13, Try.ntmps13
  go_wp2_with fail
  refine (s_DrawForwardPacket a len cap w hcl hcap HC.out).mono ?_
  rintro e w1 ⟨p, pc, hs, N, R, b, c1, es, f, nw, rfl, hh7, hx, hcp, hnn, hPH, hI, hb⟩
  obtain ⟨n, hn⟩ : ∃ n, es.length = n := ⟨_, rfl⟩
  obtain ⟨pn, hpn⟩ : ∃ pn, hs.length = pn := ⟨_, rfl⟩
  rw [hn] at hx hcp hnn ⊢
  rw [hpn] at hh7 ⊢
  obtain ⟨y0, y1, y2, y3, y4⟩ := f
  unfold fvv
  have HN := Lib.hid hn
  have HPN := Lib.hid hpn
  have HNN := Lib.hid hnn
  clear hnn hpn
  have zz1 := hb.size
  have D1 := Lib.hid (hb)
  have I1 := Lib.hid (hI)
  have H1 := Lib.hid (hPH)
  clear hb hI hPH
  obtain ⟨w2, hw2, b2, sz2, x2_0, x2_1⟩ := headB w1 30 37 [.int .i64 N, .int .i64 R, .slice b n c1] [.int .i64 y0, .int .i64 y1, .int .i64 y2, .int .i64 y3, .int .i64 y4]
  have HW2 := Lib.hid hw2
  have zz2 := (b2).size
  have D2 := Lib.hid (Below.step D1.out b2 (by omega))
  have I2 := Lib.hid (I1.out.below b2)
  have H2 := Lib.hid (H1.out.below b2)
  clear D1 I1 H1
  have T2 := Lib.hid (x2_0)
  have Fb2 := Lib.hid (x2_1)
  clear hw2 b2 x2_0 x2_1
  obtain ⟨⟨⟨d1, d2, d3⟩, vh⟩, hd⟩ : ∃ d, fwdT hs (N, R, es) (y0, y1, y2, y3, y4) nw = d := ⟨_, rfl⟩
  have HDR := Lib.hid hd
  have hn20 : n ≤ 1048576 := by omega
  have hp20 : pn ≤ 1048576 := by omega
  have HDL : Hid (d3.length ≤ 1048576) := Lib.hid (by
    have := fwd_len (hs := hs) (t := (N, R, es)) (f := (y0, y1, y2, y3, y4)) (now := nw)
    rw [hd] at this
    exact Nat.le_trans this (by omega))
  clear hn hd
  go_wp2_with fail
  rw [← HW2.out]
  refine (c_Fwd_r HDR.out (some p) pn pc b n c1 _ HPN.out hp20 H2.out HN.out hn20 I2.out HNN.out).mono ?_
  rintro e w3 ⟨a3, c3, rfl, o3, g3⟩
  have b3 := grown_below g3
  have zz3 := (b3).size
  have D3 := Lib.hid (Below.step D2.out b3 (by omega))
  have I3 := Lib.hid (I2.out.below b3)
  have H3 := Lib.hid (H2.out.below b3)
  have T3 := Lib.hid (T2.out.keep b3)
  have Fb3 := Lib.hid (Fb2.out.keep b3)
  clear D2 I2 H2 T2 Fb2
  have X3 := Lib.hid (EntRow.ents o3)
  have Xc := (row_cap o3).1
  have Xz := Lib.hid (own_none o3)
  clear b3 g3 o3
  obtain ⟨w4, hw4, b4, sz4, x4_0⟩ := head1 w3 30 [.int .i64 d1, .int .i64 d2, .slice a3 d3.length c3]
  have HW4 := Lib.hid hw4
  have zz4 := (b4).size
  have D4 := Lib.hid (Below.step D3.out b4 (by omega))
  have I4 := Lib.hid (I3.out.below b4)
  have H4 := Lib.hid (H3.out.below b4)
  have T4 := Lib.hid (T3.out.keep b4)
  have Fb4 := Lib.hid (Fb3.out.keep b4)
  have X4 := Lib.hid (X3.out.below b4)
  clear D3 I3 H3 T3 Fb3 X3
  have B4 := Lib.hid (x4_0)
  clear hw4 b4 x4_0
  go_upto_region 5 with fail
  rw [← HW4.out]
  obtain ⟨t_0, t_1, t_2, t_f⟩ := T4.out.three
  obtain ⟨fb_0, fb_1, fb_2, fb_3, fb_4, fb_f⟩ := Fb4.out.five
  go_wp2_with fail
  refine (s_Fwd_r HDR.out (some p) pn pc b n c1 _ HPN.out hp20 H4.out HN.out hn20 I4.out HNN.out).mono ?_
  rintro e w5 ⟨a5, c5, rfl, o5, g5⟩
  clear t_0 t_1 t_2 t_f fb_0 fb_1 fb_2 fb_3 fb_4 fb_f
  have b5 := grown_below g5
  have zz5 := (b5).size
  have D5 := Lib.hid (Below.step D4.out b5 (by omega))
  have I5 := Lib.hid (I4.out.below b5)
  have H5 := Lib.hid (H4.out.below b5)
  have T5 := Lib.hid (T4.out.keep b5)
  have Fb5 := Lib.hid (Fb4.out.keep b5)
  have X5 := Lib.hid (X4.out.below b5)
  have B5 := Lib.hid (B4.out.keep b5)
  clear D4 I4 H4 T4 Fb4 X4 B4
  have Y5 := Lib.hid (EntRow.ents o5)
  have Yc := (row_cap o5).1
  have Yz := Lib.hid (own_none o5)
  clear b5 g5 o5
  obtain ⟨w6, hw6, b6, sz6, x6_0⟩ := head1 w5 30 [.int .i64 d1, .int .i64 d2, .slice a5 d3.length c5]
  have HW6 := Lib.hid hw6
  have zz6 := (b6).size
  have D6 := Lib.hid (Below.step D5.out b6 (by omega))
  have I6 := Lib.hid (I5.out.below b6)
  have H6 := Lib.hid (H5.out.below b6)
  have T6 := Lib.hid (T5.out.keep b6)
  have Fb6 := Lib.hid (Fb5.out.keep b6)
  have X6 := Lib.hid (X5.out.below b6)
  have B6 := Lib.hid (B5.out.keep b6)
  have Y6 := Lib.hid (Y5.out.below b6)
  clear D5 I5 H5 T5 Fb5 X5 B5 Y5
  have C6 := Lib.hid (x6_0)
  clear hw6 b6 x6_0
  go_upto_region 6 with fail
  rw [← HW6.out]
  obtain ⟨b_0, b_1, b_2, b_f⟩ := B6.out.three
  obtain ⟨c_0, c_1, c_2, c_f⟩ := C6.out.three
  go_wp2_with fail
  refine (c_sameTable d1 d2 a3 a5 _ c3 c5 d3 _ rfl HDL.out X6.out Y6.out).mono ?_
  rintro e w7 ⟨rfl, b7⟩
  clear b_0 b_1 b_2 b_f c_0 c_1 c_2 c_f
  have zz7 := (b7).size
  have D7 := Lib.hid (Below.step D6.out b7 (by omega))
  have I7 := Lib.hid (I6.out.below b7)
  have H7 := Lib.hid (H6.out.below b7)
  have T7 := Lib.hid (T6.out.keep b7)
  have Fb7 := Lib.hid (Fb6.out.keep b7)
  have X7 := Lib.hid (X6.out.below b7)
  have B7 := Lib.hid (B6.out.keep b7)
  have Y7 := Lib.hid (Y6.out.below b7)
  have C7 := Lib.hid (C6.out.keep b7)
  clear D6 I6 H6 T6 Fb6 X6 B6 Y6 C6
  clear b7
  clear C7
  clear Y7
  have hlaw := fwd_law hs (N, R, es) (y0, y1, y2, y3, y4) nw
  rw [HDR.out] at hlaw
  dsimp only at hlaw
  rcases hlaw with ⟨hz1, hz2⟩ | ⟨hz1, hz2, hz3, hz4⟩
  · subst hz1 hz2
    clear HDR
    obtain ⟨b_0, b_1, b_2, b_f⟩ := B7.out.three
    go_wp2_with fail
    refine (c_alive _).mono ?_
    rintro e w8 ⟨rfl, b8⟩
    clear b_0 b_1 b_2 b_f
    have zz8 := (b8).size
    have D8 := Lib.hid (Below.step D7.out b8 (by omega))
    have I8 := Lib.hid (I7.out.below b8)
    have H8 := Lib.hid (H7.out.below b8)
    have T8 := Lib.hid (T7.out.keep b8)
    have Fb8 := Lib.hid (Fb7.out.keep b8)
    have X8 := Lib.hid (X7.out.below b8)
    have B8 := Lib.hid (B7.out.keep b8)
    clear D7 I7 H7 T7 Fb7 X7 B7
    clear b8
    go_wp2
    go_ret
    exact ⟨rfl, D8.out⟩
  · have HV := Lib.hid hz2
    have HT := Lib.hid hz3
    have HF := Lib.hid hz4
    clear hz2 hz3 hz4 HDR
    obtain ⟨b_0, b_1, b_2, b_f⟩ := B7.out.three
    obtain ⟨fb_0, fb_1, fb_2, fb_3, fb_4, fb_f⟩ := Fb7.out.five
    go_wp2_with fail
    refine (c_Fwd_r HT.out (some p) pn pc a3 d3.length c3 _ HPN.out hp20 H7.out rfl HDL.out X7.out Xz.out).mono ?_
    rintro e w8 ⟨a8, c8, rfl, o8, g8⟩
    clear b_0 b_1 b_2 b_f fb_0 fb_1 fb_2 fb_3 fb_4 fb_f
    have b8 := grown_below g8
    have zz8 := (b8).size
    have D8 := Lib.hid (Below.step D7.out b8 (by omega))
    have I8 := Lib.hid (I7.out.below b8)
    have H8 := Lib.hid (H7.out.below b8)
    have T8 := Lib.hid (T7.out.keep b8)
    have Fb8 := Lib.hid (Fb7.out.keep b8)
    have X8 := Lib.hid (X7.out.below b8)
    have B8 := Lib.hid (B7.out.keep b8)
    clear D7 I7 H7 T7 Fb7 X7 B7
    have Z8 := Lib.hid (EntRow.ents o8)
    have Zc := (row_cap o8).1
    have Zz := Lib.hid (own_none o8)
    clear b8 g8 o8
    obtain ⟨w9, hw9, b9, sz9, x9_0⟩ := head1 w8 30 [.int .i64 d1, .int .i64 d2, .slice a8 d3.length c8]
    have HW9 := Lib.hid hw9
    have zz9 := (b9).size
    have D9 := Lib.hid (Below.step D8.out b9 (by omega))
    have I9 := Lib.hid (I8.out.below b9)
    have H9 := Lib.hid (H8.out.below b9)
    have T9 := Lib.hid (T8.out.keep b9)
    have Fb9 := Lib.hid (Fb8.out.keep b9)
    have X9 := Lib.hid (X8.out.below b9)
    have B9 := Lib.hid (B8.out.keep b9)
    have Z9 := Lib.hid (Z8.out.below b9)
    clear D8 I8 H8 T8 Fb8 X8 B8 Z8
    have E9 := Lib.hid (x9_0)
    clear hw9 b9 x9_0
    go_upto_region 11 with fail
    rw [← HW9.out]
    obtain ⟨b_0, b_1, b_2, b_f⟩ := B9.out.three
    go_wp2_with fail
    refine (c_TableValid d1 d2 a3 d3.length c3 d3 _ rfl HDL.out X9.out).mono ?_
    rintro e w10 ⟨rfl, b10⟩
    clear b_0 b_1 b_2 b_f
    have zz10 := (b10).size
    have D10 := Lib.hid (Below.step D9.out b10 (by omega))
    have I10 := Lib.hid (I9.out.below b10)
    have H10 := Lib.hid (H9.out.below b10)
    have T10 := Lib.hid (T9.out.keep b10)
    have Fb10 := Lib.hid (Fb9.out.keep b10)
    have X10 := Lib.hid (X9.out.below b10)
    have B10 := Lib.hid (B9.out.keep b10)
    have Z10 := Lib.hid (Z9.out.below b10)
    have E10 := Lib.hid (E9.out.keep b10)
    clear D9 I9 H9 T9 Fb9 X9 B9 Z9 E9
    clear b10
    rw [HV.out]
    obtain ⟨e_0, e_1, e_2, e_f⟩ := E10.out.three
    obtain ⟨b_0, b_1, b_2, b_f⟩ := B10.out.three
    go_wp2_with fail
    refine (c_sameTable d1 d2 a8 a3 _ c8 c3 d3 _ rfl HDL.out Z10.out X10.out).mono ?_
    rintro e w11 ⟨rfl, b11⟩
    clear e_0 e_1 e_2 e_f b_0 b_1 b_2 b_f
    have zz11 := (b11).size
    have D11 := Lib.hid (Below.step D10.out b11 (by omega))
    have I11 := Lib.hid (I10.out.below b11)
    have H11 := Lib.hid (H10.out.below b11)
    have T11 := Lib.hid (T10.out.keep b11)
    have Fb11 := Lib.hid (Fb10.out.keep b11)
    have X11 := Lib.hid (X10.out.below b11)
    have B11 := Lib.hid (B10.out.keep b11)
    have Z11 := Lib.hid (Z10.out.below b11)
    have E11 := Lib.hid (E10.out.keep b11)
    clear D10 I10 H10 T10 Fb10 X10 B10 Z10 E10
    clear b11
    obtain ⟨b_0, b_1, b_2, b_f⟩ := B11.out.three
    obtain ⟨fb_0, fb_1, fb_2, fb_3, fb_4, fb_f⟩ := Fb11.out.five
    go_wp2_with fail
    refine (c_FindFlow d1 d2 (y0, y1, y2, y3, y4) a3 d3.length c3 d3 _ rfl HDL.out X11.out).mono ?_
    rintro e w12 ⟨rfl, b12⟩
    clear b_0 b_1 b_2 b_f fb_0 fb_1 fb_2 fb_3 fb_4 fb_f
    have zz12 := (b12).size
    have D12 := Lib.hid (Below.step D11.out b12 (by omega))
    have I12 := Lib.hid (I11.out.below b12)
    have H12 := Lib.hid (H11.out.below b12)
    have T12 := Lib.hid (T11.out.keep b12)
    have Fb12 := Lib.hid (Fb11.out.keep b12)
    have X12 := Lib.hid (X11.out.below b12)
    have B12 := Lib.hid (B11.out.keep b12)
    have Z12 := Lib.hid (Z11.out.below b12)
    have E12 := Lib.hid (E11.out.keep b12)
    clear D11 I11 H11 T11 Fb11 X11 B11 Z11 E11
    clear b12
    rw [HF.out]
    go_wp2
    go_ret
    exact ⟨rfl, D12.out⟩
end Go.Proofs.Ytdkdfehlmphikaa
