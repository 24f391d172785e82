/- The walk of the law SendOut: it answers true whatever bytes come in. No condition. -/
import Derived.Test.YtalalapjanckdaaDSo
import Derived.Test.YtalalapjanckdaaOsi
import Derived.Test.YtalalapjanckdaaOutU
import Derived.Test.YtalalapjanckdaaMG
import Derived.Test.YtalalapjanckdaaRegP
namespace Go.Proofs.Ytalalapjanckdaa
open Go.RowKit
/-- SendIn, its answer named. -/
theorem c_SendIn_v {k : Nat} {fs : List F5} {y0 y1 y2 y3 y4 : Int} (hgd : fs.getD k z5 = (y0, y1, y2, y3, y4)) (N R : Int) (a : Option Addr) (n cap : Nat) (w : World) (hxs : fs.length = n) (hv : ov N R fs = true) (hk : k < n) (hz : fs.getD k z5 ≠ z5) (h : Flws w a fs) :
    Calls Try.prog 24 #[.agg #[.int .i64 N, .int .i64 R, .slice a n cap], .agg #[.int .i64 y2, .int .i64 y3, .int .i64 N, .int .i64 (R + (k : Int)), .int .i64 y4]] w fun e w' => e = .returned (.tuple #[.agg #[.int .i64 y2, .int .i64 y3, .int .i64 y0, .int .i64 y1, .int .i64 y4], .bool true]) ∧ Below w.heap.size w w' := by
  have := c_SendIn N R k a n cap fs w hxs hv hk hz h
  rw [hgd] at this
  exact this
set_option maxHeartbeats 4000000 in
set_option maxRecDepth 100000 in
theorem walkSendOut (a : Option Addr) (len cap : Nat) (z : List Int) (w : World) (w0 : IsRow .u8 w a len cap z) :
    Calls Try.prog 5 #[.slice a len cap] w fun e w' => e = .returned (.bool true) ∧ Below w.heap.size w w' := by
  obtain ⟨hcl, hcap⟩ := w0.caps
  have HC := Lib.hid w0.code
  clear w0
  have hm := hcap
  unfold maxLen at hm
  by_cases hbig : (1048576 : Int) < (len : Int)
  · go_enter Try.func5, Try.ntmps5
    go_wp2
    go_ret
    exact ⟨rfl, Below.refl _ _⟩
  go_enter Try.func5, Try.ntmps5
  go_wp2_with fail
  refine (s_DrawSendOut a len cap w hcl hcap HC.out).mono ?_
  rintro e w1 ⟨N, R, b, c1, fs, f, rfl, hx1, hx9, hcp, hnn, -, hI, hb⟩
  obtain ⟨n, hn⟩ : ∃ n, fs.length = n := ⟨_, rfl⟩
  rw [hn] at hx1 hx9 hcp hnn ⊢
  obtain ⟨y0, y1, y2, y3, y4⟩ := f
  unfold fvv
  have HN := Lib.hid hn
  have HNN := Lib.hid hnn
  clear hnn
  have zz1 := hb.size
  have D1 := Lib.hid (hb)
  have I1 := Lib.hid (hI)
  clear hb hI
  obtain ⟨w2, hw2, b2, sz2, x2_0, x2_1⟩ := headB w1 25 27 [.int .i64 N, .int .i64 R, .slice b n c1] [.int .i64 y0, .int .i64 y1, .int .i64 y2, .int .i64 y3, .int .i64 y4]
  have HW2 := Lib.hid hw2
  have zz2 := (b2).size
  have D2 := Lib.hid (Below.step D1.out b2 (by omega))
  have I2 := Lib.hid (I1.out.below b2)
  clear D1 I1
  have T2 := Lib.hid (x2_0)
  have Fb2 := Lib.hid (x2_1)
  clear hw2 b2 x2_0 x2_1
  obtain ⟨⟨⟨d1, d2, d3⟩, ⟨u0, u1, u2, u3, u4⟩, ok⟩, hd⟩ : ∃ d, sendT (N, R, fs) (y0, y1, y2, y3, y4) = d := ⟨_, rfl⟩
  have HDR := Lib.hid hd
  have hn20 : n ≤ 1048576 := by omega
  have HDL : Hid (d3.length ≤ 1048576) := Lib.hid (by have := (send_facts N R fs (y0, y1, y2, y3, y4)).1; rw [hd] at this; simp only at this; omega)
  clear hn hd
  go_wp2_with fail
  rw [← HW2.out]
  refine (c_Snd_r HDR.out b n c1 _ HN.out hn20 I2.out HNN.out).mono ?_
  rintro e w3 ⟨a3, c3, rfl, o3, g3⟩
  have b3 := grown_below g3
  have zz3 := (b3).size
  have D3 := Lib.hid (Below.step D2.out b3 (by omega))
  have I3 := Lib.hid (I2.out.below b3)
  have T3 := Lib.hid (T2.out.keep b3)
  have Fb3 := Lib.hid (Fb2.out.keep b3)
  clear D2 I2 T2 Fb2
  have X3 := Lib.hid (FlwRow.flws o3)
  have Xc := (row_cap o3).1
  have Xz := Lib.hid (own_none o3)
  clear b3 g3 o3
  unfold fvv
  obtain ⟨w4, hw4, b4, sz4, x4_0, x4_1⟩ := headB w3 25 27 [.int .i64 d1, .int .i64 d2, .slice a3 d3.length c3] [.int .i64 u0, .int .i64 u1, .int .i64 u2, .int .i64 u3, .int .i64 u4]
  have HW4 := Lib.hid hw4
  have zz4 := (b4).size
  have D4 := Lib.hid (Below.step D3.out b4 (by omega))
  have I4 := Lib.hid (I3.out.below b4)
  have T4 := Lib.hid (T3.out.keep b4)
  have Fb4 := Lib.hid (Fb3.out.keep b4)
  have X4 := Lib.hid (X3.out.below b4)
  clear D3 I3 T3 Fb3 X3
  have B4 := Lib.hid (x4_0)
  have U4 := Lib.hid (x4_1)
  clear hw4 b4 x4_0 x4_1
  go_upto_region 5 with fail
  rw [← HW4.out]
  obtain ⟨t_0, t_1, t_2, t_f⟩ := T4.out.three
  obtain ⟨fb_0, fb_1, fb_2, fb_3, fb_4, fb_f⟩ := Fb4.out.five
  go_wp2_with fail
  refine (s_Snd_r HDR.out b n c1 _ HN.out hn20 I4.out HNN.out).mono ?_
  rintro e w5 ⟨a5, c5, rfl, o5, g5⟩
  clear t_0 t_1 t_2 t_f fb_0 fb_1 fb_2 fb_3 fb_4 fb_f
  have b5 := grown_below g5
  have zz5 := (b5).size
  have D5 := Lib.hid (Below.step D4.out b5 (by omega))
  have I5 := Lib.hid (I4.out.below b5)
  have T5 := Lib.hid (T4.out.keep b5)
  have Fb5 := Lib.hid (Fb4.out.keep b5)
  have X5 := Lib.hid (X4.out.below b5)
  have B5 := Lib.hid (B4.out.keep b5)
  have U5 := Lib.hid (U4.out.keep b5)
  clear D4 I4 T4 Fb4 X4 B4 U4
  have Y5 := Lib.hid (FlwRow.flws o5)
  have Yc := (row_cap o5).1
  have Yz := Lib.hid (own_none o5)
  clear b5 g5 o5
  unfold fvv
  obtain ⟨w6, hw6, b6, sz6, x6_0, x6_1⟩ := headB w5 25 27 [.int .i64 d1, .int .i64 d2, .slice a5 d3.length c5] [.int .i64 u0, .int .i64 u1, .int .i64 u2, .int .i64 u3, .int .i64 u4]
  have HW6 := Lib.hid hw6
  have zz6 := (b6).size
  have D6 := Lib.hid (Below.step D5.out b6 (by omega))
  have I6 := Lib.hid (I5.out.below b6)
  have T6 := Lib.hid (T5.out.keep b6)
  have Fb6 := Lib.hid (Fb5.out.keep b6)
  have X6 := Lib.hid (X5.out.below b6)
  have B6 := Lib.hid (B5.out.keep b6)
  have U6 := Lib.hid (U5.out.keep b6)
  have Y6 := Lib.hid (Y5.out.below b6)
  clear D5 I5 T5 Fb5 X5 B5 U5 Y5
  have C6 := Lib.hid (x6_0)
  have V6 := Lib.hid (x6_1)
  clear hw6 b6 x6_0 x6_1
  go_upto_region 6 with fail
  rw [← HW6.out]
  obtain ⟨b_0, b_1, b_2, b_f⟩ := B6.out.three
  obtain ⟨c_0, c_1, c_2, c_f⟩ := C6.out.three
  go_wp2_with fail
  refine (c_sameOutlet d1 d2 a3 a5 d3.length c3 c5 d3 _ rfl HDL.out X6.out Y6.out).mono ?_
  rintro e w7 ⟨rfl, b7⟩
  clear b_0 b_1 b_2 b_f c_0 c_1 c_2 c_f
  have zz7 := (b7).size
  have D7 := Lib.hid (Below.step D6.out b7 (by omega))
  have I7 := Lib.hid (I6.out.below b7)
  have T7 := Lib.hid (T6.out.keep b7)
  have Fb7 := Lib.hid (Fb6.out.keep b7)
  have X7 := Lib.hid (X6.out.below b7)
  have B7 := Lib.hid (B6.out.keep b7)
  have U7 := Lib.hid (U6.out.keep b7)
  have Y7 := Lib.hid (Y6.out.below b7)
  have C7 := Lib.hid (C6.out.keep b7)
  have V7 := Lib.hid (V6.out.keep b7)
  clear D6 I6 T6 Fb6 X6 B6 U6 Y6 C6 V6
  clear b7
  have hqu : ∀ w, (binOp .neq 27 (.agg #[.int .i64 u0, .int .i64 u1, .int .i64 u2, .int .i64 u3, .int .i64 u4]) (.agg #[.int .i64 u0, .int .i64 u1, .int .i64 u2, .int .i64 u3, .int .i64 u4])).run Try.prog w = .ok (.bool false) w := neqF_no' rfl
  obtain ⟨u_0, u_1, u_2, u_3, u_4, u_f⟩ := U7.out.five
  obtain ⟨v_0, v_1, v_2, v_3, v_4, v_f⟩ := V7.out.five
  go_upto_region 8 with fail
  clear u_0 u_1 u_2 u_3 u_4 u_f v_0 v_1 v_2 v_3 v_4 v_f
  clear hqu
  clear C7
  clear Y7
  clear V7
  cases hvf : (ov N R fs && fv (y0, y1, y2, y3, y4))
  · have hz := HDR.out.symm.trans (send_zero hvf)
    simp only [Prod.mk.injEq, z5] at hz
    obtain ⟨⟨rfl, rfl, rfl⟩, ⟨rfl, rfl, rfl, rfl, rfl⟩, rfl⟩ := hz
    clear HDR hvf
    have hqz : ∀ w, (binOp .eql 27 (.agg #[.int .i64 0, .int .i64 0, .int .i64 0, .int .i64 0, .int .i64 0]) (.agg #[.int .i64 0, .int .i64 0, .int .i64 0, .int .i64 0, .int .i64 0])).run Try.prog w = .ok (.bool true) w := eqlF_yes' rfl
    obtain ⟨u_0, u_1, u_2, u_3, u_4, u_f⟩ := U7.out.five
    obtain ⟨b_0, b_1, b_2, b_f⟩ := B7.out.three
    obtain ⟨t_0, t_1, t_2, t_f⟩ := T7.out.three
    go_wp2_with fail
    refine (c_sameOutlet_no N R a3 b n c3 c1 _ hx1).mono ?_
    rintro e w8 ⟨rfl, b8⟩
    clear u_0 u_1 u_2 u_3 u_4 u_f b_0 b_1 b_2 b_f t_0 t_1 t_2 t_f
    have zz8 := (b8).size
    have D8 := Lib.hid (Below.step D7.out b8 (by omega))
    have I8 := Lib.hid (I7.out.below b8)
    have T8 := Lib.hid (T7.out.keep b8)
    have Fb8 := Lib.hid (Fb7.out.keep b8)
    have X8 := Lib.hid (X7.out.below b8)
    have B8 := Lib.hid (B7.out.keep b8)
    have U8 := Lib.hid (U7.out.keep b8)
    clear D7 I7 T7 Fb7 X7 B7 U7
    clear b8
    obtain ⟨b_0, b_1, b_2, b_f⟩ := B8.out.three
    go_wp2_with fail
    refine (c_alive _).mono ?_
    rintro e w9 ⟨rfl, b9⟩
    clear b_0 b_1 b_2 b_f
    have zz9 := (b9).size
    have D9 := Lib.hid (Below.step D8.out b9 (by omega))
    have I9 := Lib.hid (I8.out.below b9)
    have T9 := Lib.hid (T8.out.keep b9)
    have Fb9 := Lib.hid (Fb8.out.keep b9)
    have X9 := Lib.hid (X8.out.below b9)
    have B9 := Lib.hid (B8.out.keep b9)
    have U9 := Lib.hid (U8.out.keep b9)
    clear D8 I8 T8 Fb8 X8 B8 U8
    clear b9
    go_wp2
    go_ret
    exact ⟨rfl, D9.out⟩
  · simp only [Bool.and_eq_true] at hvf
    obtain ⟨hov, hfv⟩ := hvf
    rcases send_cases hov hfv with hz | ⟨k, hk, hV, hz⟩
    · replace hz := HDR.out.symm.trans hz
      simp only [Prod.mk.injEq, z5] at hz
      obtain ⟨⟨rfl, rfl, rfl⟩, ⟨rfl, rfl, rfl, rfl, rfl⟩, rfl⟩ := hz
      clear HDR hov hfv
      have hNl := HN.out
      subst hNl
      have hqz : ∀ w, (binOp .eql 27 (.agg #[.int .i64 0, .int .i64 0, .int .i64 0, .int .i64 0, .int .i64 0]) (.agg #[.int .i64 0, .int .i64 0, .int .i64 0, .int .i64 0, .int .i64 0])).run Try.prog w = .ok (.bool true) w := eqlF_yes' rfl
      obtain ⟨u_0, u_1, u_2, u_3, u_4, u_f⟩ := U7.out.five
      obtain ⟨b_0, b_1, b_2, b_f⟩ := B7.out.three
      obtain ⟨t_0, t_1, t_2, t_f⟩ := T7.out.three
      go_wp2_with fail
      refine (c_sameOutlet d1 d2 a3 b d3.length c3 c1 d3 _ rfl hn20 X7.out I7.out).mono ?_
      rintro e w8 ⟨rfl, b8⟩
      clear u_0 u_1 u_2 u_3 u_4 u_f b_0 b_1 b_2 b_f t_0 t_1 t_2 t_f
      have zz8 := (b8).size
      have D8 := Lib.hid (Below.step D7.out b8 (by omega))
      have I8 := Lib.hid (I7.out.below b8)
      have T8 := Lib.hid (T7.out.keep b8)
      have Fb8 := Lib.hid (Fb7.out.keep b8)
      have X8 := Lib.hid (X7.out.below b8)
      have B8 := Lib.hid (B7.out.keep b8)
      have U8 := Lib.hid (U7.out.keep b8)
      clear D7 I7 T7 Fb7 X7 B7 U7
      clear b8
      obtain ⟨b_0, b_1, b_2, b_f⟩ := B8.out.three
      go_wp2_with fail
      refine (c_alive _).mono ?_
      rintro e w9 ⟨rfl, b9⟩
      clear b_0 b_1 b_2 b_f
      have zz9 := (b9).size
      have D9 := Lib.hid (Below.step D8.out b9 (by omega))
      have I9 := Lib.hid (I8.out.below b9)
      have T9 := Lib.hid (T8.out.keep b9)
      have Fb9 := Lib.hid (Fb8.out.keep b9)
      have X9 := Lib.hid (X8.out.below b9)
      have B9 := Lib.hid (B8.out.keep b9)
      have U9 := Lib.hid (U8.out.keep b9)
      clear D8 I8 T8 Fb8 X8 B8 U8
      clear b9
      go_wp2
      go_ret
      exact ⟨rfl, D9.out⟩
    · replace hz := HDR.out.symm.trans hz
      simp only [Prod.mk.injEq, outF] at hz
      obtain ⟨⟨h1, h2, hd3⟩, ⟨h3, h4, h5, h6, h7⟩, h8⟩ := hz
      subst h1 h2
      replace h3 := h3.symm
      replace h5 := h5.symm
      replace h6 := h6.symm
      replace h7 := h7.symm
      subst h3 h4 h5 h6 h7 h8
      clear HDR
      have hkd : k < d3.length := by rw [hd3, List.length_set]; exact hk
      have hgd : d3.getD k z5 = (y0, y1, y2, y3, y4) := by rw [hd3, getD_set5 hk, if_pos rfl]
      have hnz : d3.getD k z5 ≠ z5 := by rw [hgd]; exact fv_ne hfv
      rw [← hd3] at hV
      have HV := Lib.hid (OV_ov hV)
      have hsa := send_again hV hkd hnz
      rw [hgd] at hsa
      have HSA : Hid (sendT (d1, d2, d3) (y0, y1, y2, y3, y4) = ((d1, d2, d3), (d1, d2 + (k : Int), y2, y3, y4), true)) := Lib.hid hsa
      have hfu : fv (d1, d2 + (k : Int), y2, y3, y4) = true := by
        have p1 := inB_true.1 hV.first
        have p2 := inB_true.1 hV.len
        have hp := hfv
        simp only [fv, Bool.and_eq_true] at hp ⊢
        obtain ⟨⟨⟨⟨p3, p4⟩, p5⟩, p6⟩, p7⟩ := hp
        exact ⟨⟨⟨⟨hV.out, p4⟩, inB_true.2 ⟨by omega, by omega⟩⟩, p6⟩, p7⟩
      have HFU := Lib.hid hfu
      have HFV := Lib.hid hfv
      have HGD := Lib.hid hgd
      have HNZ := Lib.hid hnz
      clear hov hfv hV hk hd3 hsa hfu hgd hnz hn20
      go_upto_region 10 with fail
      refine region_anyP _ 8 116 [72, 73, 74, 75, 71, 76, 77, 11] [] [(72, .val (.agg #[.int .i64 d1, .int .i64 d2, .slice a3 d3.length c3])), (73, .val (.agg #[.int .i64 d1, .int .i64 (d2 + (k : Int)), .int .i64 y2, .int .i64 y3, .int .i64 y4])), (74, .val (.agg #[.int .i64 y2, .int .i64 y3, .int .i64 d1, .int .i64 (d2 + (k : Int)), .int .i64 y4])), (75, .val (.tuple #[.agg #[.int .i64 y2, .int .i64 y3, .int .i64 y0, .int .i64 y1, .int .i64 y4], .bool true])), (71, .val (.tuple #[.agg #[.int .i64 y2, .int .i64 y3, .int .i64 y0, .int .i64 y1, .int .i64 y4], .bool true])), (76, .val (.agg #[.int .i64 y2, .int .i64 y3, .int .i64 y0, .int .i64 y1, .int .i64 y4])), (77, .val (.bool true)), (11, .bx w7.heap.size 27 [.int .i64 0, .int .i64 0, .int .i64 0, .int .i64 0, .int .i64 0])] [6] rfl (by kernel_rfl) (fun s hs => by cases hs) (spAt_free (by kernel_rfl)) (fun s hs => by cases hs) rfl (fun _ _ _ _ _ h => h) ?_ ?_ ?_
      · intro i9 o9 hi9 ho9 fr9 wq hd
        simp only [List.mem_cons, List.not_mem_nil, or_false] at hi9
        subst hi9
        all_goals
          injection ho9 with ho9
          subst ho9
          have e71 : fr9.tmps.getD 71 undef = .tuple #[.agg #[.int .i64 y2, .int .i64 y3, .int .i64 y0, .int .i64 y1, .int .i64 y4], .bool true] := hd 71 (by kernel_rfl)
        · exact ⟨77, _, rfl, .inl ⟨rfl, fun w9 => run_ext _ _ w9 (.tmp 71) 1 _ _ rfl e71 rfl⟩, rfl⟩
      · refine ⟨?_, ?_, ?_, ?_, ?_, ?_, ?_, ?_, trivial⟩
        · refine opS_any (d := 72) rfl rfl (by kernel_rfl) (op_val (d := 72) rfl (.agg #[.int .i64 d1, .int .i64 d2, .slice a3 d3.length c3]) (fun fr9 wq hf hd hb => ⟨?_, ?_⟩) _)
          rotate_left
          · exact rfl
          have e5 : fr9.tmps.getD 5 undef = .pointer (some ⟨w3.heap.size, 0, none⟩) := hf 5 (by kernel_rfl)
          have hb9 := B7.out.keep hb
          have q0 : wq.cell? ⟨w3.heap.size, 0, none⟩ = some (.int .i64 d1) := hb9.cell 0
          have q1 : wq.cell? ⟨w3.heap.size, 1, none⟩ = some (.int .i64 d2) := hb9.cell 1
          have q2 : wq.cell? ⟨w3.heap.size, 2, none⟩ = some (.slice a3 d3.length c3) := hb9.cell 2
          simp [execOp, Act.eval, e5, q0, q1, q2, go_sem]
        · refine opS_any (d := 73) rfl rfl (by kernel_rfl) (op_val (d := 73) rfl (.agg #[.int .i64 d1, .int .i64 (d2 + (k : Int)), .int .i64 y2, .int .i64 y3, .int .i64 y4]) (fun fr9 wq hf hd hb => ⟨?_, ?_⟩) _)
          rotate_left
          · exact rfl
          have e6 : fr9.tmps.getD 6 undef = .pointer (some ⟨(w3.heap.size + 1), 0, none⟩) := hf 6 (by kernel_rfl)
          have hb9 := U7.out.keep hb
          have q0 : wq.cell? ⟨(w3.heap.size + 1), 0, none⟩ = some (.int .i64 d1) := hb9.cell 0
          have q1 : wq.cell? ⟨(w3.heap.size + 1), 1, none⟩ = some (.int .i64 (d2 + (k : Int))) := hb9.cell 1
          have q2 : wq.cell? ⟨(w3.heap.size + 1), 2, none⟩ = some (.int .i64 y2) := hb9.cell 2
          have q3 : wq.cell? ⟨(w3.heap.size + 1), 3, none⟩ = some (.int .i64 y3) := hb9.cell 3
          have q4 : wq.cell? ⟨(w3.heap.size + 1), 4, none⟩ = some (.int .i64 y4) := hb9.cell 4
          simp [execOp, Act.eval, e6, q0, q1, q2, q3, q4, go_sem]
        · refine opS_any (d := 74) rfl rfl (by kernel_rfl) ?_
          intro fr9 wq hf hd hb
          have e73 : fr9.tmps.getD 73 undef = .agg #[.int .i64 d1, .int .i64 (d2 + (k : Int)), .int .i64 y2, .int .i64 y3, .int .i64 y4] := hd 73 (by kernel_rfl)
          have hv9 : (#[Operand.tmp 73] : Array Operand).map fr9.eval = #[.agg #[.int .i64 d1, .int .i64 (d2 + (k : Int)), .int .i64 y2, .int .i64 y3, .int .i64 y4]] := by simp only [List.map_toArray, List.map_cons, List.map_nil, Act.eval, e73]
          refine ⟨74, rfl, op_call rfl (run_callL _ _ _ 25 _ _ _ rfl rfl hv9 (enters_of Try.func25 (by kernel_rfl) rfl)) ?_⟩
          refine (c_TurnFlow (d1, d2 + (k : Int), y2, y3, y4) wq HFU.out).mono ?_
          rintro e w5 ⟨rfl, g5⟩
          exact ⟨_, rfl, _, rfl, rfl, g5⟩
        · refine opS_any (d := 75) rfl rfl (by kernel_rfl) ?_
          intro fr9 wq hf hd hb
          have e72 : fr9.tmps.getD 72 undef = .agg #[.int .i64 d1, .int .i64 d2, .slice a3 d3.length c3] := hd 72 (by kernel_rfl)
          have e74 : fr9.tmps.getD 74 undef = .agg #[.int .i64 y2, .int .i64 y3, .int .i64 d1, .int .i64 (d2 + (k : Int)), .int .i64 y4] := hd 74 (by kernel_rfl)
          have hv9 : (#[Operand.tmp 72, Operand.tmp 74] : Array Operand).map fr9.eval = #[.agg #[.int .i64 d1, .int .i64 d2, .slice a3 d3.length c3], .agg #[.int .i64 y2, .int .i64 y3, .int .i64 d1, .int .i64 (d2 + (k : Int)), .int .i64 y4]] := by simp only [List.map_toArray, List.map_cons, List.map_nil, Act.eval, e72, e74]
          refine ⟨75, rfl, op_call rfl (run_callL _ _ _ 24 _ _ _ rfl rfl hv9 (enters_of Try.func24 (by kernel_rfl) rfl)) ?_⟩
          refine (c_SendIn_v HGD.out d1 d2 a3 d3.length c3 wq rfl HV.out hkd HNZ.out (X7.out.below hb)).mono ?_
          rintro e w5 ⟨rfl, g5⟩
          exact ⟨_, rfl, _, rfl, rfl, g5⟩
        · refine opS_any (d := 71) rfl rfl (by kernel_rfl) (op_val (d := 71) rfl (.tuple #[.agg #[.int .i64 y2, .int .i64 y3, .int .i64 y0, .int .i64 y1, .int .i64 y4], .bool true]) (fun fr9 wq hf hd hb => ⟨?_, ?_⟩) _)
          rotate_left
          · exact rfl
          have e75 : fr9.tmps.getD 75 undef = .tuple #[.agg #[.int .i64 y2, .int .i64 y3, .int .i64 y0, .int .i64 y1, .int .i64 y4], .bool true] := hd 75 (by kernel_rfl)
          exact (run_mv _ _ _ (.tmp 75) _ e75).1 rfl
        · refine opS_any (d := 76) rfl rfl (by kernel_rfl) (op_val (d := 76) rfl (.agg #[.int .i64 y2, .int .i64 y3, .int .i64 y0, .int .i64 y1, .int .i64 y4]) (fun fr9 wq hf hd hb => ⟨?_, ?_⟩) _)
          rotate_left
          · exact rfl
          have e71 : fr9.tmps.getD 71 undef = .tuple #[.agg #[.int .i64 y2, .int .i64 y3, .int .i64 y0, .int .i64 y1, .int .i64 y4], .bool true] := hd 71 (by kernel_rfl)
          exact run_ext _ _ _ (.tmp 71) 0 _ _ rfl e71 rfl
        · refine opS_any (d := 77) rfl rfl (by kernel_rfl) (op_val (d := 77) rfl (.bool true) (fun fr9 wq hf hd hb => ⟨?_, ?_⟩) _)
          rotate_left
          · exact rfl
          have e71 : fr9.tmps.getD 71 undef = .tuple #[.agg #[.int .i64 y2, .int .i64 y3, .int .i64 y0, .int .i64 y1, .int .i64 y4], .bool true] := hd 71 (by kernel_rfl)
          exact run_ext _ _ _ (.tmp 71) 1 _ _ rfl e71 rfl
        · refine opS_any (d := 11) rfl rfl (by kernel_rfl) ?_
          exact op_alloc (d := 11) rfl 27 [.int .i64 0, .int .i64 0, .int .i64 0, .int .i64 0, .int .i64 0] _ (Nat.le_refl _) rfl (fun ρ wq => run_alFi _ ρ wq rfl) _
      · intro fq wq hf hbq
        have e72 : fq 72 = .agg #[.int .i64 d1, .int .i64 d2, .slice a3 d3.length c3] := hf 72 (by decide)
        have e73 : fq 73 = .agg #[.int .i64 d1, .int .i64 (d2 + (k : Int)), .int .i64 y2, .int .i64 y3, .int .i64 y4] := hf 73 (by decide)
        have e74 : fq 74 = .agg #[.int .i64 y2, .int .i64 y3, .int .i64 d1, .int .i64 (d2 + (k : Int)), .int .i64 y4] := hf 74 (by decide)
        have e75 : fq 75 = .tuple #[.agg #[.int .i64 y2, .int .i64 y3, .int .i64 y0, .int .i64 y1, .int .i64 y4], .bool true] := hf 75 (by decide)
        have e71 : fq 71 = .tuple #[.agg #[.int .i64 y2, .int .i64 y3, .int .i64 y0, .int .i64 y1, .int .i64 y4], .bool true] := hf 71 (by decide)
        have e76 : fq 76 = .agg #[.int .i64 y2, .int .i64 y3, .int .i64 y0, .int .i64 y1, .int .i64 y4] := hf 76 (by decide)
        have e77 : fq 77 = .bool true := hf 77 (by decide)
        obtain ⟨g11, e11, l11, b11⟩ : ∃ g, fq 11 = .pointer (some ⟨g, 0, none⟩) ∧ w7.heap.size ≤ g ∧ Box wq g 27 [.int .i64 0, .int .i64 0, .int .i64 0, .int .i64 0, .int .i64 0] := hf 11 (by decide)
        simp only [List.drop_succ_cons, List.drop_zero, putL, Act.put, List.setIfInBounds_toArray, List.set_cons_succ, List.set_cons_zero, e72, e73, e74, e75, e71, e76, e77, e11]
        clear hf e72 e73 e74 e75 e71 e76 e77 e11
        obtain ⟨p0, p1, p2, p3, p4, pf⟩ := b11.five
        go_upto_region 11 with fail
        obtain ⟨w8, hw8⟩ : ∃ W, W = ((((wq.setCell ⟨g11, 0, none⟩ (.int .i64 y2)).setCell ⟨g11, 1, none⟩ (.int .i64 y3)).setCell ⟨g11, 2, none⟩ (.int .i64 y0)).setCell ⟨g11, 3, none⟩ (.int .i64 y1)).setCell ⟨g11, 4, none⟩ (.int .i64 y4) := ⟨_, rfl⟩
        have hb8 : Below w7.heap.size w7 w8 := by rw [hw8]; exact ((((hbq.setCell l11 _).setCell l11 _).setCell l11 _).setCell l11 _).setCell l11 _
        have zz8 := (hb8).size
        have D8 := Lib.hid (Below.step D7.out hb8 (by omega))
        have I8 := Lib.hid (I7.out.below hb8)
        have T8 := Lib.hid (T7.out.keep hb8)
        have Fb8 := Lib.hid (Fb7.out.keep hb8)
        have X8 := Lib.hid (X7.out.below hb8)
        have B8 := Lib.hid (B7.out.keep hb8)
        have U8 := Lib.hid (U7.out.keep hb8)
        clear D7 I7 T7 Fb7 X7 B7 U7
        have Q8 : Hid (Box w8 g11 27 [.int .i64 y2, .int .i64 y3, .int .i64 y0, .int .i64 y1, .int .i64 y4]) := Lib.hid (by rw [hw8]; exact ((((b11.set 0 _).set 1 _).set 2 _).set 3 _).set 4 _)
        rw [← hw8]
        clear hw8 hb8 hbq b11 l11 p0 p1 p2 p3 p4 pf
        obtain ⟨b_0, b_1, b_2, b_f⟩ := B8.out.three
        obtain ⟨fb_0, fb_1, fb_2, fb_3, fb_4, fb_f⟩ := Fb8.out.five
        go_wp2_with fail
        refine (c_Snd_r HSA.out a3 d3.length c3 _ rfl HDL.out X8.out Xz.out).mono ?_
        rintro e w9 ⟨a9, c9, rfl, o9, g9⟩
        clear b_0 b_1 b_2 b_f fb_0 fb_1 fb_2 fb_3 fb_4 fb_f
        have b9 := grown_below g9
        have zz9 := (b9).size
        have D9 := Lib.hid (Below.step D8.out b9 (by omega))
        have I9 := Lib.hid (I8.out.below b9)
        have T9 := Lib.hid (T8.out.keep b9)
        have Fb9 := Lib.hid (Fb8.out.keep b9)
        have X9 := Lib.hid (X8.out.below b9)
        have B9 := Lib.hid (B8.out.keep b9)
        have U9 := Lib.hid (U8.out.keep b9)
        have Q9 := Lib.hid (Q8.out.keep b9)
        clear D8 I8 T8 Fb8 X8 B8 U8 Q8
        have Z9 := Lib.hid (FlwRow.flws o9)
        have Zc := (row_cap o9).1
        have Zz := Lib.hid (own_none o9)
        clear b9 g9 o9
        unfold fvv
        obtain ⟨w10, hw10, b10, sz10, x10_0, x10_1⟩ := headB w9 25 27 [.int .i64 d1, .int .i64 d2, .slice a9 d3.length c9] [.int .i64 d1, .int .i64 (d2 + (k : Int)), .int .i64 y2, .int .i64 y3, .int .i64 y4]
        have HW10 := Lib.hid hw10
        have zz10 := (b10).size
        have D10 := Lib.hid (Below.step D9.out b10 (by omega))
        have I10 := Lib.hid (I9.out.below b10)
        have T10 := Lib.hid (T9.out.keep b10)
        have Fb10 := Lib.hid (Fb9.out.keep b10)
        have X10 := Lib.hid (X9.out.below b10)
        have B10 := Lib.hid (B9.out.keep b10)
        have U10 := Lib.hid (U9.out.keep b10)
        have Q10 := Lib.hid (Q9.out.keep b10)
        have Z10 := Lib.hid (Z9.out.below b10)
        clear D9 I9 T9 Fb9 X9 B9 U9 Q9 Z9
        have E10 := Lib.hid (x10_0)
        have G10 := Lib.hid (x10_1)
        clear hw10 b10 x10_0 x10_1
        go_upto_region 12 with fail
        rw [← HW10.out]
        have hqi : ∀ w, (binOp .eql 27 (.agg #[.int .i64 y2, .int .i64 y3, .int .i64 y0, .int .i64 y1, .int .i64 y4]) (.agg #[.int .i64 y2, .int .i64 y3, .int .i64 y0, .int .i64 y1, .int .i64 y4])).run Try.prog w = .ok (.bool true) w := eqlF_yes' rfl
        have hqo : ∀ w, (binOp .eql 27 (.agg #[.int .i64 d1, .int .i64 (d2 + (k : Int)), .int .i64 y2, .int .i64 y3, .int .i64 y4]) (.agg #[.int .i64 d1, .int .i64 (d2 + (k : Int)), .int .i64 y2, .int .i64 y3, .int .i64 y4])).run Try.prog w = .ok (.bool true) w := eqlF_yes' rfl
        refine region_anyW _ 31 116 [85, 86, 87, 88, 89, 90, 91, 92, 93, 94, 95, 96, 97, 98, 99, 100, 101, 102, 103, 104, 105, 106, 107, 108, 109, 110, 111, 112, 113, 114, 115] [(85, .val (.agg #[.int .i64 d1, .int .i64 d2, .slice a3 d3.length c3])), (86, .val (.bool true)), (87, .val (.bool true)), (88, .val (.bool true)), (89, .val (.bool true)), (90, .val (.bool true)), (91, .val (.agg #[.int .i64 y2, .int .i64 y3, .int .i64 y0, .int .i64 y1, .int .i64 y4])), (92, .val (.agg #[.int .i64 y0, .int .i64 y1, .int .i64 y2, .int .i64 y3, .int .i64 y4])), (93, .val (.agg #[.int .i64 y2, .int .i64 y3, .int .i64 y0, .int .i64 y1, .int .i64 y4])), (94, .val (.bool true)), (95, .val (.bool true)), (96, .val (.bool true)), (97, .val (.bool true)), (98, .val (.bool true)), (99, .val (.bool true)), (100, .val (.agg #[.int .i64 d1, .int .i64 (d2 + (k : Int)), .int .i64 y2, .int .i64 y3, .int .i64 y4])), (101, .val (.agg #[.int .i64 d1, .int .i64 (d2 + (k : Int)), .int .i64 y2, .int .i64 y3, .int .i64 y4])), (102, .val (.bool true)), (103, .val (.bool true)), (104, .val (.bool true)), (105, .val (.agg #[.int .i64 d1, .int .i64 d2, .slice a9 d3.length c9])), (106, .val (.agg #[.int .i64 d1, .int .i64 d2, .slice a3 d3.length c3])), (107, .val (.bool true)), (108, .val (.bool true)), (109, .val (.bool true)), (110, .val (.pointer (some ⟨(w3.heap.size + 1), 0, none⟩))), (111, .val (.int .i64 d1)), (112, .val (.pointer (some ⟨w1.heap.size, 0, none⟩))), (113, .val (.int .i64 d1)), (114, .val (.bool true)), (115, .val (.bool true))] rfl (by kernel_rfl) ?_ ?_
        · refine ⟨?_, ?_, ?_, ?_, ?_, ?_, ?_, ?_, ?_, ?_, ?_, ?_, ?_, ?_, ?_, ?_, ?_, ?_, ?_, ?_, ?_, ?_, ?_, ?_, ?_, ?_, ?_, ?_, ?_, ?_, ?_, trivial⟩
          · refine opW_free rfl rfl (op_val (d := 85) rfl (.agg #[.int .i64 d1, .int .i64 d2, .slice a3 d3.length c3]) (fun fr9 wq hf hd hb => ⟨?_, ?_⟩) _)
            rotate_left
            · exact rfl
            have e5 : fr9.tmps.getD 5 undef = .pointer (some ⟨w3.heap.size, 0, none⟩) := hf 5 (by kernel_rfl)
            have hb9 := B10.out.keep hb
            have q0 : wq.cell? ⟨w3.heap.size, 0, none⟩ = some (.int .i64 d1) := hb9.cell 0
            have q1 : wq.cell? ⟨w3.heap.size, 1, none⟩ = some (.int .i64 d2) := hb9.cell 1
            have q2 : wq.cell? ⟨w3.heap.size, 2, none⟩ = some (.slice a3 d3.length c3) := hb9.cell 2
            simp [execOp, Act.eval, e5, q0, q1, q2, go_sem]
          · refine opW_free rfl rfl ?_
            intro fr9 wq hf hd hb
            have e85 : fr9.tmps.getD 85 undef = .agg #[.int .i64 d1, .int .i64 d2, .slice a3 d3.length c3] := hd 85 (by kernel_rfl)
            have hv9 : (#[Operand.tmp 85] : Array Operand).map fr9.eval = #[.agg #[.int .i64 d1, .int .i64 d2, .slice a3 d3.length c3]] := by simp only [List.map_toArray, List.map_cons, List.map_nil, Act.eval, e85]
            refine ⟨86, rfl, op_call rfl (run_callL _ _ _ 26 _ _ _ rfl rfl hv9 (enters_of Try.func26 (by kernel_rfl) rfl)) ?_⟩
            refine (c_OutletValid d1 d2 a3 d3.length c3 d3 wq rfl HDL.out (X10.out.below hb)).mono ?_
            rintro e w5 ⟨rfl, g5⟩
            exact ⟨_, rfl, _, rfl, (congrArg Value.bool HV.out), g5⟩
          · refine opW_free rfl rfl (op_val (d := 87) rfl (.bool true) (fun fr9 wq hf hd hb => ⟨?_, ?_⟩) _)
            rotate_left
            · exact rfl
            have e86 : fr9.tmps.getD 86 undef = .bool true := hd 86 (by kernel_rfl)
            exact (run_mv _ _ _ (.tmp 86) _ e86).1 rfl
          · refine opW_want (s := 87) rfl rfl rfl (by kernel_rfl) rfl (op_val (d := 88) rfl (.bool true) (fun fr9 wq hf hd hb => ⟨?_, ?_⟩) _)
            rotate_left
            · exact rfl
            have e12 : fr9.tmps.getD 12 undef = .bool true := hf 12 (by kernel_rfl)
            exact (run_mv _ _ _ (.tmp 12) _ e12).1 rfl
          · refine opW_free rfl rfl (op_val (d := 89) rfl (.bool true) (fun fr9 wq hf hd hb => ⟨?_, ?_⟩) _)
            rotate_left
            · exact rfl
            have e87 : fr9.tmps.getD 87 undef = .bool true := hd 87 (by kernel_rfl)
            have e88 : fr9.tmps.getD 88 undef = .bool true := hd 88 (by kernel_rfl)
            simp [execOp, Act.eval, e87, e88, go_sem]
          · refine opW_free rfl rfl (op_val (d := 90) rfl (.bool true) (fun fr9 wq hf hd hb => ⟨?_, ?_⟩) _)
            rotate_left
            · exact rfl
            have e89 : fr9.tmps.getD 89 undef = .bool true := hd 89 (by kernel_rfl)
            exact (run_mv _ _ _ (.tmp 89) _ e89).1 rfl
          · refine opW_want (s := 90) rfl rfl rfl (by kernel_rfl) rfl (op_val (d := 91) rfl (.agg #[.int .i64 y2, .int .i64 y3, .int .i64 y0, .int .i64 y1, .int .i64 y4]) (fun fr9 wq hf hd hb => ⟨?_, ?_⟩) _)
            rotate_left
            · exact rfl
            have e11 : fr9.tmps.getD 11 undef = .pointer (some ⟨g11, 0, none⟩) := hf 11 (by kernel_rfl)
            have hb9 := Q10.out.keep hb
            have q0 : wq.cell? ⟨g11, 0, none⟩ = some (.int .i64 y2) := hb9.cell 0
            have q1 : wq.cell? ⟨g11, 1, none⟩ = some (.int .i64 y3) := hb9.cell 1
            have q2 : wq.cell? ⟨g11, 2, none⟩ = some (.int .i64 y0) := hb9.cell 2
            have q3 : wq.cell? ⟨g11, 3, none⟩ = some (.int .i64 y1) := hb9.cell 3
            have q4 : wq.cell? ⟨g11, 4, none⟩ = some (.int .i64 y4) := hb9.cell 4
            simp [execOp, Act.eval, e11, q0, q1, q2, q3, q4, go_sem]
          · refine opW_want (s := 90) rfl rfl rfl (by kernel_rfl) rfl (op_val (d := 92) rfl (.agg #[.int .i64 y0, .int .i64 y1, .int .i64 y2, .int .i64 y3, .int .i64 y4]) (fun fr9 wq hf hd hb => ⟨?_, ?_⟩) _)
            rotate_left
            · exact rfl
            have e4 : fr9.tmps.getD 4 undef = .pointer (some ⟨(w1.heap.size + 1), 0, none⟩) := hf 4 (by kernel_rfl)
            have hb9 := Fb10.out.keep hb
            have q0 : wq.cell? ⟨(w1.heap.size + 1), 0, none⟩ = some (.int .i64 y0) := hb9.cell 0
            have q1 : wq.cell? ⟨(w1.heap.size + 1), 1, none⟩ = some (.int .i64 y1) := hb9.cell 1
            have q2 : wq.cell? ⟨(w1.heap.size + 1), 2, none⟩ = some (.int .i64 y2) := hb9.cell 2
            have q3 : wq.cell? ⟨(w1.heap.size + 1), 3, none⟩ = some (.int .i64 y3) := hb9.cell 3
            have q4 : wq.cell? ⟨(w1.heap.size + 1), 4, none⟩ = some (.int .i64 y4) := hb9.cell 4
            simp [execOp, Act.eval, e4, q0, q1, q2, q3, q4, go_sem]
          · refine opW_want (s := 90) rfl rfl rfl (by kernel_rfl) rfl ?_
            intro fr9 wq hf hd hb
            have e92 : fr9.tmps.getD 92 undef = .agg #[.int .i64 y0, .int .i64 y1, .int .i64 y2, .int .i64 y3, .int .i64 y4] := hd 92 (by kernel_rfl)
            have hv9 : (#[Operand.tmp 92] : Array Operand).map fr9.eval = #[.agg #[.int .i64 y0, .int .i64 y1, .int .i64 y2, .int .i64 y3, .int .i64 y4]] := by simp only [List.map_toArray, List.map_cons, List.map_nil, Act.eval, e92]
            refine ⟨93, rfl, op_call rfl (run_callL _ _ _ 25 _ _ _ rfl rfl hv9 (enters_of Try.func25 (by kernel_rfl) rfl)) ?_⟩
            refine (c_TurnFlow (y0, y1, y2, y3, y4) wq HFV.out).mono ?_
            rintro e w5 ⟨rfl, g5⟩
            exact ⟨_, rfl, _, rfl, rfl, g5⟩
          · refine opW_want (s := 90) rfl rfl rfl (by kernel_rfl) rfl (op_val (d := 94) rfl (.bool true) (fun fr9 wq hf hd hb => ⟨?_, ?_⟩) _)
            rotate_left
            · exact rfl
            have e91 : fr9.tmps.getD 91 undef = .agg #[.int .i64 y2, .int .i64 y3, .int .i64 y0, .int .i64 y1, .int .i64 y4] := hd 91 (by kernel_rfl)
            have e93 : fr9.tmps.getD 93 undef = .agg #[.int .i64 y2, .int .i64 y3, .int .i64 y0, .int .i64 y1, .int .i64 y4] := hd 93 (by kernel_rfl)
            simp [execOp, Act.eval, e91, e93, hqi, go_sem]
          · refine opW_free rfl rfl (op_val (d := 95) rfl (.bool true) (fun fr9 wq hf hd hb => ⟨?_, ?_⟩) _)
            rotate_left
            · exact rfl
            have e90 : fr9.tmps.getD 90 undef = .bool true := hd 90 (by kernel_rfl)
            have e94 : fr9.tmps.getD 94 undef = .bool true := hd 94 (by kernel_rfl)
            simp [execOp, Act.eval, e90, e94, go_sem]
          · refine opW_free rfl rfl (op_val (d := 96) rfl (.bool true) (fun fr9 wq hf hd hb => ⟨?_, ?_⟩) _)
            rotate_left
            · exact rfl
            have e95 : fr9.tmps.getD 95 undef = .bool true := hd 95 (by kernel_rfl)
            exact (run_mv _ _ _ (.tmp 95) _ e95).1 rfl
          · refine opW_want (s := 96) rfl rfl rfl (by kernel_rfl) rfl (op_val (d := 97) rfl (.bool true) (fun fr9 wq hf hd hb => ⟨?_, ?_⟩) _)
            rotate_left
            · exact rfl
            have e15 : fr9.tmps.getD 15 undef = .bool true := hf 15 (by kernel_rfl)
            exact (run_mv _ _ _ (.tmp 15) _ e15).1 rfl
          · refine opW_free rfl rfl (op_val (d := 98) rfl (.bool true) (fun fr9 wq hf hd hb => ⟨?_, ?_⟩) _)
            rotate_left
            · exact rfl
            have e96 : fr9.tmps.getD 96 undef = .bool true := hd 96 (by kernel_rfl)
            have e97 : fr9.tmps.getD 97 undef = .bool true := hd 97 (by kernel_rfl)
            simp [execOp, Act.eval, e96, e97, go_sem]
          · refine opW_free rfl rfl (op_val (d := 99) rfl (.bool true) (fun fr9 wq hf hd hb => ⟨?_, ?_⟩) _)
            rotate_left
            · exact rfl
            have e98 : fr9.tmps.getD 98 undef = .bool true := hd 98 (by kernel_rfl)
            exact (run_mv _ _ _ (.tmp 98) _ e98).1 rfl
          · refine opW_want (s := 99) rfl rfl rfl (by kernel_rfl) rfl (op_val (d := 100) rfl (.agg #[.int .i64 d1, .int .i64 (d2 + (k : Int)), .int .i64 y2, .int .i64 y3, .int .i64 y4]) (fun fr9 wq hf hd hb => ⟨?_, ?_⟩) _)
            rotate_left
            · exact rfl
            have e14 : fr9.tmps.getD 14 undef = .pointer (some ⟨(w9.heap.size + 1), 0, none⟩) := hf 14 (by kernel_rfl)
            have hb9 := G10.out.keep hb
            have q0 : wq.cell? ⟨(w9.heap.size + 1), 0, none⟩ = some (.int .i64 d1) := hb9.cell 0
            have q1 : wq.cell? ⟨(w9.heap.size + 1), 1, none⟩ = some (.int .i64 (d2 + (k : Int))) := hb9.cell 1
            have q2 : wq.cell? ⟨(w9.heap.size + 1), 2, none⟩ = some (.int .i64 y2) := hb9.cell 2
            have q3 : wq.cell? ⟨(w9.heap.size + 1), 3, none⟩ = some (.int .i64 y3) := hb9.cell 3
            have q4 : wq.cell? ⟨(w9.heap.size + 1), 4, none⟩ = some (.int .i64 y4) := hb9.cell 4
            simp [execOp, Act.eval, e14, q0, q1, q2, q3, q4, go_sem]
          · refine opW_want (s := 99) rfl rfl rfl (by kernel_rfl) rfl (op_val (d := 101) rfl (.agg #[.int .i64 d1, .int .i64 (d2 + (k : Int)), .int .i64 y2, .int .i64 y3, .int .i64 y4]) (fun fr9 wq hf hd hb => ⟨?_, ?_⟩) _)
            rotate_left
            · exact rfl
            have e6 : fr9.tmps.getD 6 undef = .pointer (some ⟨(w3.heap.size + 1), 0, none⟩) := hf 6 (by kernel_rfl)
            have hb9 := U10.out.keep hb
            have q0 : wq.cell? ⟨(w3.heap.size + 1), 0, none⟩ = some (.int .i64 d1) := hb9.cell 0
            have q1 : wq.cell? ⟨(w3.heap.size + 1), 1, none⟩ = some (.int .i64 (d2 + (k : Int))) := hb9.cell 1
            have q2 : wq.cell? ⟨(w3.heap.size + 1), 2, none⟩ = some (.int .i64 y2) := hb9.cell 2
            have q3 : wq.cell? ⟨(w3.heap.size + 1), 3, none⟩ = some (.int .i64 y3) := hb9.cell 3
            have q4 : wq.cell? ⟨(w3.heap.size + 1), 4, none⟩ = some (.int .i64 y4) := hb9.cell 4
            simp [execOp, Act.eval, e6, q0, q1, q2, q3, q4, go_sem]
          · refine opW_want (s := 99) rfl rfl rfl (by kernel_rfl) rfl (op_val (d := 102) rfl (.bool true) (fun fr9 wq hf hd hb => ⟨?_, ?_⟩) _)
            rotate_left
            · exact rfl
            have e100 : fr9.tmps.getD 100 undef = .agg #[.int .i64 d1, .int .i64 (d2 + (k : Int)), .int .i64 y2, .int .i64 y3, .int .i64 y4] := hd 100 (by kernel_rfl)
            have e101 : fr9.tmps.getD 101 undef = .agg #[.int .i64 d1, .int .i64 (d2 + (k : Int)), .int .i64 y2, .int .i64 y3, .int .i64 y4] := hd 101 (by kernel_rfl)
            simp [execOp, Act.eval, e100, e101, hqo, go_sem]
          · refine opW_free rfl rfl (op_val (d := 103) rfl (.bool true) (fun fr9 wq hf hd hb => ⟨?_, ?_⟩) _)
            rotate_left
            · exact rfl
            have e99 : fr9.tmps.getD 99 undef = .bool true := hd 99 (by kernel_rfl)
            have e102 : fr9.tmps.getD 102 undef = .bool true := hd 102 (by kernel_rfl)
            simp [execOp, Act.eval, e99, e102, go_sem]
          · refine opW_free rfl rfl (op_val (d := 104) rfl (.bool true) (fun fr9 wq hf hd hb => ⟨?_, ?_⟩) _)
            rotate_left
            · exact rfl
            have e103 : fr9.tmps.getD 103 undef = .bool true := hd 103 (by kernel_rfl)
            exact (run_mv _ _ _ (.tmp 103) _ e103).1 rfl
          · refine opW_want (s := 104) rfl rfl rfl (by kernel_rfl) rfl (op_val (d := 105) rfl (.agg #[.int .i64 d1, .int .i64 d2, .slice a9 d3.length c9]) (fun fr9 wq hf hd hb => ⟨?_, ?_⟩) _)
            rotate_left
            · exact rfl
            have e13 : fr9.tmps.getD 13 undef = .pointer (some ⟨w9.heap.size, 0, none⟩) := hf 13 (by kernel_rfl)
            have hb9 := E10.out.keep hb
            have q0 : wq.cell? ⟨w9.heap.size, 0, none⟩ = some (.int .i64 d1) := hb9.cell 0
            have q1 : wq.cell? ⟨w9.heap.size, 1, none⟩ = some (.int .i64 d2) := hb9.cell 1
            have q2 : wq.cell? ⟨w9.heap.size, 2, none⟩ = some (.slice a9 d3.length c9) := hb9.cell 2
            simp [execOp, Act.eval, e13, q0, q1, q2, go_sem]
          · refine opW_want (s := 104) rfl rfl rfl (by kernel_rfl) rfl (op_val (d := 106) rfl (.agg #[.int .i64 d1, .int .i64 d2, .slice a3 d3.length c3]) (fun fr9 wq hf hd hb => ⟨?_, ?_⟩) _)
            rotate_left
            · exact rfl
            have e5 : fr9.tmps.getD 5 undef = .pointer (some ⟨w3.heap.size, 0, none⟩) := hf 5 (by kernel_rfl)
            have hb9 := B10.out.keep hb
            have q0 : wq.cell? ⟨w3.heap.size, 0, none⟩ = some (.int .i64 d1) := hb9.cell 0
            have q1 : wq.cell? ⟨w3.heap.size, 1, none⟩ = some (.int .i64 d2) := hb9.cell 1
            have q2 : wq.cell? ⟨w3.heap.size, 2, none⟩ = some (.slice a3 d3.length c3) := hb9.cell 2
            simp [execOp, Act.eval, e5, q0, q1, q2, go_sem]
          · refine opW_want (s := 104) rfl rfl rfl (by kernel_rfl) rfl ?_
            intro fr9 wq hf hd hb
            have e105 : fr9.tmps.getD 105 undef = .agg #[.int .i64 d1, .int .i64 d2, .slice a9 d3.length c9] := hd 105 (by kernel_rfl)
            have e106 : fr9.tmps.getD 106 undef = .agg #[.int .i64 d1, .int .i64 d2, .slice a3 d3.length c3] := hd 106 (by kernel_rfl)
            have hv9 : (#[Operand.tmp 105, Operand.tmp 106] : Array Operand).map fr9.eval = #[.agg #[.int .i64 d1, .int .i64 d2, .slice a9 d3.length c9], .agg #[.int .i64 d1, .int .i64 d2, .slice a3 d3.length c3]] := by simp only [List.map_toArray, List.map_cons, List.map_nil, Act.eval, e105, e106]
            refine ⟨107, rfl, op_call rfl (run_callL _ _ _ 14 _ _ _ rfl rfl hv9 (enters_of Try.func14 (by kernel_rfl) rfl)) ?_⟩
            refine (c_sameOutlet d1 d2 a9 a3 d3.length c9 c3 d3 wq rfl HDL.out (Z10.out.below hb) (X10.out.below hb)).mono ?_
            rintro e w5 ⟨rfl, g5⟩
            exact ⟨_, rfl, _, rfl, rfl, g5⟩
          · refine opW_free rfl rfl (op_val (d := 108) rfl (.bool true) (fun fr9 wq hf hd hb => ⟨?_, ?_⟩) _)
            rotate_left
            · exact rfl
            have e104 : fr9.tmps.getD 104 undef = .bool true := hd 104 (by kernel_rfl)
            have e107 : fr9.tmps.getD 107 undef = .bool true := hd 107 (by kernel_rfl)
            simp [execOp, Act.eval, e104, e107, go_sem]
          · refine opW_free rfl rfl (op_val (d := 109) rfl (.bool true) (fun fr9 wq hf hd hb => ⟨?_, ?_⟩) _)
            rotate_left
            · exact rfl
            have e108 : fr9.tmps.getD 108 undef = .bool true := hd 108 (by kernel_rfl)
            exact (run_mv _ _ _ (.tmp 108) _ e108).1 rfl
          · refine opW_want (s := 109) rfl rfl rfl (by kernel_rfl) rfl (op_val (d := 110) rfl (.pointer (some ⟨(w3.heap.size + 1), 0, none⟩)) (fun fr9 wq hf hd hb => ⟨?_, ?_⟩) _)
            rotate_left
            · exact rfl
            have e6 : fr9.tmps.getD 6 undef = .pointer (some ⟨(w3.heap.size + 1), 0, none⟩) := hf 6 (by kernel_rfl)
            simp [execOp, Act.eval, e6, go_sem]
          · refine opW_want (s := 109) rfl rfl rfl (by kernel_rfl) rfl (op_val (d := 111) rfl (.int .i64 d1) (fun fr9 wq hf hd hb => ⟨?_, ?_⟩) _)
            rotate_left
            · exact rfl
            have e110 : fr9.tmps.getD 110 undef = .pointer (some ⟨(w3.heap.size + 1), 0, none⟩) := hd 110 (by kernel_rfl)
            have hb9 := U10.out.keep hb
            have q9 : wq.cell? ⟨(w3.heap.size + 1), 0, none⟩ = some (.int .i64 d1) := hb9.cell 0
            simp [execOp, Act.eval, e110, q9, go_sem]
          · refine opW_want (s := 109) rfl rfl rfl (by kernel_rfl) rfl (op_val (d := 112) rfl (.pointer (some ⟨w1.heap.size, 0, none⟩)) (fun fr9 wq hf hd hb => ⟨?_, ?_⟩) _)
            rotate_left
            · exact rfl
            have e3 : fr9.tmps.getD 3 undef = .pointer (some ⟨w1.heap.size, 0, none⟩) := hf 3 (by kernel_rfl)
            simp [execOp, Act.eval, e3, go_sem]
          · refine opW_want (s := 109) rfl rfl rfl (by kernel_rfl) rfl (op_val (d := 113) rfl (.int .i64 d1) (fun fr9 wq hf hd hb => ⟨?_, ?_⟩) _)
            rotate_left
            · exact rfl
            have e112 : fr9.tmps.getD 112 undef = .pointer (some ⟨w1.heap.size, 0, none⟩) := hd 112 (by kernel_rfl)
            have hb9 := T10.out.keep hb
            have q9 : wq.cell? ⟨w1.heap.size, 0, none⟩ = some (.int .i64 d1) := hb9.cell 0
            simp [execOp, Act.eval, e112, q9, go_sem]
          · refine opW_want (s := 109) rfl rfl rfl (by kernel_rfl) rfl (op_val (d := 114) rfl (.bool true) (fun fr9 wq hf hd hb => ⟨?_, ?_⟩) _)
            rotate_left
            · exact rfl
            have e111 : fr9.tmps.getD 111 undef = .int .i64 d1 := hd 111 (by kernel_rfl)
            have e113 : fr9.tmps.getD 113 undef = .int .i64 d1 := hd 113 (by kernel_rfl)
            simp [execOp, Act.eval, e111, e113, go_sem]
          · refine opW_free rfl rfl (op_val (d := 115) rfl (.bool true) (fun fr9 wq hf hd hb => ⟨?_, ?_⟩) _)
            rotate_left
            · exact rfl
            have e109 : fr9.tmps.getD 109 undef = .bool true := hd 109 (by kernel_rfl)
            have e114 : fr9.tmps.getD 114 undef = .bool true := hd 114 (by kernel_rfl)
            simp [execOp, Act.eval, e109, e114, go_sem]
        · intro fq wq hf hbq
          have e85 : fq 85 = .agg #[.int .i64 d1, .int .i64 d2, .slice a3 d3.length c3] := hf 85 (by decide)
          have e86 : fq 86 = .bool true := hf 86 (by decide)
          have e87 : fq 87 = .bool true := hf 87 (by decide)
          have e88 : fq 88 = .bool true := hf 88 (by decide)
          have e89 : fq 89 = .bool true := hf 89 (by decide)
          have e90 : fq 90 = .bool true := hf 90 (by decide)
          have e91 : fq 91 = .agg #[.int .i64 y2, .int .i64 y3, .int .i64 y0, .int .i64 y1, .int .i64 y4] := hf 91 (by decide)
          have e92 : fq 92 = .agg #[.int .i64 y0, .int .i64 y1, .int .i64 y2, .int .i64 y3, .int .i64 y4] := hf 92 (by decide)
          have e93 : fq 93 = .agg #[.int .i64 y2, .int .i64 y3, .int .i64 y0, .int .i64 y1, .int .i64 y4] := hf 93 (by decide)
          have e94 : fq 94 = .bool true := hf 94 (by decide)
          have e95 : fq 95 = .bool true := hf 95 (by decide)
          have e96 : fq 96 = .bool true := hf 96 (by decide)
          have e97 : fq 97 = .bool true := hf 97 (by decide)
          have e98 : fq 98 = .bool true := hf 98 (by decide)
          have e99 : fq 99 = .bool true := hf 99 (by decide)
          have e100 : fq 100 = .agg #[.int .i64 d1, .int .i64 (d2 + (k : Int)), .int .i64 y2, .int .i64 y3, .int .i64 y4] := hf 100 (by decide)
          have e101 : fq 101 = .agg #[.int .i64 d1, .int .i64 (d2 + (k : Int)), .int .i64 y2, .int .i64 y3, .int .i64 y4] := hf 101 (by decide)
          have e102 : fq 102 = .bool true := hf 102 (by decide)
          have e103 : fq 103 = .bool true := hf 103 (by decide)
          have e104 : fq 104 = .bool true := hf 104 (by decide)
          have e105 : fq 105 = .agg #[.int .i64 d1, .int .i64 d2, .slice a9 d3.length c9] := hf 105 (by decide)
          have e106 : fq 106 = .agg #[.int .i64 d1, .int .i64 d2, .slice a3 d3.length c3] := hf 106 (by decide)
          have e107 : fq 107 = .bool true := hf 107 (by decide)
          have e108 : fq 108 = .bool true := hf 108 (by decide)
          have e109 : fq 109 = .bool true := hf 109 (by decide)
          have e110 : fq 110 = .pointer (some ⟨(w3.heap.size + 1), 0, none⟩) := hf 110 (by decide)
          have e111 : fq 111 = .int .i64 d1 := hf 111 (by decide)
          have e112 : fq 112 = .pointer (some ⟨w1.heap.size, 0, none⟩) := hf 112 (by decide)
          have e113 : fq 113 = .int .i64 d1 := hf 113 (by decide)
          have e114 : fq 114 = .bool true := hf 114 (by decide)
          have e115 : fq 115 = .bool true := hf 115 (by decide)
          simp only [List.drop_succ_cons, List.drop_zero, putL, Act.put, List.setIfInBounds_toArray, List.set_cons_succ, List.set_cons_zero, e85, e86, e87, e88, e89, e90, e91, e92, e93, e94, e95, e96, e97, e98, e99, e100, e101, e102, e103, e104, e105, e106, e107, e108, e109, e110, e111, e112, e113, e114, e115]
          clear hf e85 e86 e87 e88 e89 e90 e91 e92 e93 e94 e95 e96 e97 e98 e99 e100 e101 e102 e103 e104 e105 e106 e107 e108 e109 e110 e111 e112 e113 e114 e115
          have QD := Lib.hid (Below.step D10.out hbq (by omega))
          clear hbq
          go_wp2
          go_ret
          exact ⟨rfl, QD.out⟩
end Go.Proofs.Ytalalapjanckdaa
