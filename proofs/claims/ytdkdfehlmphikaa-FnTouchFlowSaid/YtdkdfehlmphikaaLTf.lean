/- The walk of the law TouchFlow: it answers true whatever bytes come in. No condition. -/
import Derived.Test.YtdkdfehlmphikaaDTf
import Derived.Test.YtdkdfehlmphikaaPut
import Derived.Test.YtdkdfehlmphikaaMG
namespace Go.Proofs.Ytdkdfehlmphikaa
open Go.RowKit
set_option maxHeartbeats 4000000 in
set_option maxRecDepth 100000 in
theorem walkTouchFlow (a : Option Addr) (len cap : Nat) (z : List Int) (w : World) (w0 : IsRow .u8 w a len cap z) :
    Calls Try.prog 7 #[.slice a len cap] w fun e w' => e = .returned (.bool true) ∧ Below w.heap.size w w' := by
  obtain ⟨hcl, hcap⟩ := w0.caps
  have HC := Lib.hid w0.code
  clear w0
  have hm := hcap
  unfold maxLen at hm
  by_cases hbig : (1048576 : Int) < (len : Int)
  · go_enter Try.func7, Try.ntmps7
    go_wp2
    go_ret
    exact ⟨rfl, Below.refl _ _⟩
  go_enter Try.func7, Try.ntmps7
  go_wp2_with fail
  refine (s_DrawTouchFlow a len cap w hcl hcap HC.out).mono ?_
  rintro e w1 ⟨N, R, b, c1, es, f, ho, nw, rfl, hx, hcp, hnn, -, hI, hb⟩
  obtain ⟨n, hn⟩ : ∃ n, es.length = n := ⟨_, rfl⟩
  rw [hn] at hx hcp hnn ⊢
  obtain ⟨y0, y1, y2, y3, y4⟩ := f
  unfold fvv
  have HN := Lib.hid hn
  have HNN := Lib.hid hnn
  clear hnn
  have z1 := hb.size
  have D1 := Lib.hid (hb)
  have I1 := Lib.hid (hI)
  clear hb hI
  obtain ⟨w2, hw2, b2, sz2, x2_0, x2_1⟩ := headB w1 30 37 [.int .i64 N, .int .i64 R, .slice b n c1] [.int .i64 y0, .int .i64 y1, .int .i64 y2, .int .i64 y3, .int .i64 y4]
  have HW2 := Lib.hid hw2
  have z2 := (b2).size
  have D2 := Lib.hid (Below.step D1.out b2 (by omega))
  have I2 := Lib.hid (I1.out.below b2)
  clear D1 I1
  have T2 := Lib.hid (x2_0)
  have Fb2 := Lib.hid (x2_1)
  clear hw2 b2 x2_0 x2_1
  obtain ⟨⟨⟨d1, d2, d3⟩, ok⟩, hd⟩ : ∃ d, touchT (N, R, es) (y0, y1, y2, y3, y4) ho nw = d := ⟨_, rfl⟩
  have HDR := Lib.hid hd
  have hn20 : n ≤ 1048576 := by omega
  have HDL : Hid (d3.length ≤ 1048576) := Lib.hid (by have := tou_le hd; omega)
  clear hn hd
  go_wp2_with fail
  rw [← HW2.out]
  refine (c_Tou_r HDR.out b n c1 _ HN.out hn20 I2.out HNN.out).mono ?_
  rintro e w3 ⟨a3, c3, rfl, o3, g3⟩
  have b3 := grown_below g3
  have z3 := (b3).size
  have D3 := Lib.hid (Below.step D2.out b3 (by omega))
  have I3 := Lib.hid (I2.out.below b3)
  have T3 := Lib.hid (T2.out.keep b3)
  have Fb3 := Lib.hid (Fb2.out.keep b3)
  clear D2 I2 T2 Fb2
  have X3 := Lib.hid (EntRow.ents o3)
  have Xc := (row_cap o3).1
  have Xz := Lib.hid (own_none o3)
  clear b3 g3 o3
  obtain ⟨w4, hw4, b4, sz4, x4_0⟩ := head1 w3 30 [.int .i64 d1, .int .i64 d2, .slice a3 d3.length c3]
  have HW4 := Lib.hid hw4
  have z4 := (b4).size
  have D4 := Lib.hid (Below.step D3.out b4 (by omega))
  have I4 := Lib.hid (I3.out.below b4)
  have T4 := Lib.hid (T3.out.keep b4)
  have Fb4 := Lib.hid (Fb3.out.keep b4)
  have X4 := Lib.hid (X3.out.below b4)
  clear D3 I3 T3 Fb3 X3
  have B4 := Lib.hid (x4_0)
  clear hw4 b4 x4_0
  go_upto_region 5 with fail
  rw [← HW4.out]
  obtain ⟨t_0, t_1, t_2, t_f⟩ := T4.out.three
  obtain ⟨fb_0, fb_1, fb_2, fb_3, fb_4, fb_f⟩ := Fb4.out.five
  go_wp2_with fail
  refine (s_Tou_r HDR.out b n c1 _ HN.out hn20 hcp I4.out HNN.out).mono ?_
  rintro e w5 ⟨a5, c5, rfl, o5, g5⟩
  clear t_0 t_1 t_2 t_f fb_0 fb_1 fb_2 fb_3 fb_4 fb_f
  have b5 := grown_below g5
  have z5 := (b5).size
  have D5 := Lib.hid (Below.step D4.out b5 (by omega))
  have I5 := Lib.hid (I4.out.below b5)
  have T5 := Lib.hid (T4.out.keep b5)
  have Fb5 := Lib.hid (Fb4.out.keep b5)
  have X5 := Lib.hid (X4.out.below b5)
  have B5 := Lib.hid (B4.out.keep b5)
  clear D4 I4 T4 Fb4 X4 B4
  have Y5 := Lib.hid (EntRow.ents o5)
  have Yc := (row_cap o5).1
  have Yz := Lib.hid (own_none o5)
  clear b5 g5 o5
  obtain ⟨w6, hw6, b6, sz6, x6_0⟩ := head1 w5 30 [.int .i64 d1, .int .i64 d2, .slice a5 d3.length c5]
  have HW6 := Lib.hid hw6
  have z6 := (b6).size
  have D6 := Lib.hid (Below.step D5.out b6 (by omega))
  have I6 := Lib.hid (I5.out.below b6)
  have T6 := Lib.hid (T5.out.keep b6)
  have Fb6 := Lib.hid (Fb5.out.keep b6)
  have X6 := Lib.hid (X5.out.below b6)
  have B6 := Lib.hid (B5.out.keep b6)
  have Y6 := Lib.hid (Y5.out.below b6)
  clear D5 I5 T5 Fb5 X5 B5 Y5
  have C6 := Lib.hid (x6_0)
  clear hw6 b6 x6_0
  go_upto_region 6 with fail
  rw [← HW6.out]
  obtain ⟨b_0, b_1, b_2, b_f⟩ := B6.out.three
  obtain ⟨c_0, c_1, c_2, c_f⟩ := C6.out.three
  go_wp2_with fail
  refine (c_sameTable d1 d2 a3 a5 _ c3 c5 d3 _ rfl HDL.out X6.out Y6.out).mono ?_
  rintro e w7 ⟨rfl, b7⟩
  clear b_0 b_1 b_2 b_f c_0 c_1 c_2 c_f
  have z7 := (b7).size
  have D7 := Lib.hid (Below.step D6.out b7 (by omega))
  have I7 := Lib.hid (I6.out.below b7)
  have T7 := Lib.hid (T6.out.keep b7)
  have Fb7 := Lib.hid (Fb6.out.keep b7)
  have X7 := Lib.hid (X6.out.below b7)
  have B7 := Lib.hid (B6.out.keep b7)
  have Y7 := Lib.hid (Y6.out.below b7)
  have C7 := Lib.hid (C6.out.keep b7)
  clear D6 I6 T6 Fb6 X6 B6 Y6 C6
  clear b7
  clear C7
  clear Y7
  cases htb : touchB (N, R, es) (y0, y1, y2, y3, y4) ho nw
  · have hz := HDR.out.symm.trans (tou_no htb)
    simp only [Prod.mk.injEq] at hz
    obtain ⟨⟨rfl, rfl, rfl⟩, rfl⟩ := hz
    clear HDR htb
    obtain ⟨b_0, b_1, b_2, b_f⟩ := B7.out.three
    go_wp2_with fail
    refine (c_alive _).mono ?_
    rintro e w8 ⟨rfl, b8⟩
    clear b_0 b_1 b_2 b_f
    have z8 := (b8).size
    have D8 := Lib.hid (Below.step D7.out b8 (by omega))
    have I8 := Lib.hid (I7.out.below b8)
    have T8 := Lib.hid (T7.out.keep b8)
    have Fb8 := Lib.hid (Fb7.out.keep b8)
    have X8 := Lib.hid (X7.out.below b8)
    have B8 := Lib.hid (B7.out.keep b8)
    clear D7 I7 T7 Fb7 X7 B7
    clear b8
    go_wp2
    go_ret
    exact ⟨rfl, D8.out⟩
  · have hz := HDR.out.symm.trans (tou_yes htb)
    simp only [Prod.mk.injEq] at hz
    obtain ⟨⟨rfl, rfl, hd3⟩, rfl⟩ := hz
    have HV : Hid (tv d1 d2 d3 = true) := Lib.hid (by rw [hd3]; exact tou_valid htb)
    have HF : Hid (findT (d1, d2, d3) (y0, y1, y2, y3, y4) = ho) := Lib.hid (by rw [hd3]; exact tou_found htb)
    have htv : tv d1 d2 es = true := by simp only [touchB, Bool.and_eq_true] at htb; exact htb.1.1.1
    have HO : Hid (∀ e ∈ es, e.1 ≠ (y0, y1, y2, y3, y4) → (findT (d1, d2, d3) e.1 = -1 ∨ findT (d1, d2, d3) e.1 = e.2.1) ∧ 0 ≤ e.2.1) := Lib.hid (fun e he hf => ⟨by rw [hd3]; exact tou_old htb he hf, host_pos (tv_TV htv) he⟩)
    have HL1 : Hid (es.countP (lostB d1 d2 d3 (y0, y1, y2, y3, y4)) ≤ 1) := Lib.hid (by rw [hd3]; exact lost_one htb)
    have HL0 : Hid ((findT (d1, d2, es) (y0, y1, y2, y3, y4) = -1) ∨ (findT (d1, d2, es) (y0, y1, y2, y3, y4) ≠ -1 ∧ es.countP (lostB d1 d2 d3 (y0, y1, y2, y3, y4)) = 0)) := Lib.hid (by
      by_cases hm : (y0, y1, y2, y3, y4) ∈ es.map (·.1)
      · exact .inr ⟨find_in htv hm, by rw [hd3]; exact lost_in htb hm⟩
      · exact .inl (find_no hm))
    clear hd3 htb htv HDR
    obtain ⟨b_0, b_1, b_2, b_f⟩ := B7.out.three
    obtain ⟨t_0, t_1, t_2, t_f⟩ := T7.out.three
    go_wp2
    clear b_0 b_1 b_2 b_f t_0 t_1 t_2 t_f
    go_loopw [11, 12] (fun l i wr => ∃ (k : Nat), k ≤ n ∧ i = .int .i64 k ∧ l = .int .i64 ((es.take k).countP (lostB d1 d2 d3 (y0, y1, y2, y3, y4)) : Nat) ∧ Below w7.heap.size w7 wr) (fun _ i _ => n - (intOf i).toNat)
    case atStart => exact ⟨0, Nat.zero_le _, rfl, rfl, Below.refl _ _⟩
    case round =>
      obtain ⟨k, hk, rfl, rfl, hG⟩ := hrel
      obtain ⟨w8, rfl⟩ : ∃ W, W = wr := ⟨_, rfl⟩
      have z8 := (hG).size
      have D8 := Lib.hid (Below.step D7.out hG (by omega))
      have I8 := Lib.hid (I7.out.below hG)
      have T8 := Lib.hid (T7.out.keep hG)
      have Fb8 := Lib.hid (Fb7.out.keep hG)
      have X8 := Lib.hid (X7.out.below hG)
      have B8 := Lib.hid (B7.out.keep hG)
      have G8 := Lib.hid (hG)
      clear hG
      by_cases hlt : k < n
      · obtain ⟨bb, off, rfl, hbl, hc⟩ := I8.out.at HN.out hlt
        obtain ⟨q0, q1, q2, q3, q4, q5, q6⟩ := hc k hlt
        clear hc
        have HM : Hid (es.getD k e0 ∈ es) := Lib.hid (getD_mem7 (by rw [HN.out]; exact hlt))
        have HST := Lib.hid (lost_step (p := lostB d1 d2 d3 (y0, y1, y2, y3, y4)) (es := es) (k := k) (by rw [HN.out]; exact hlt))
        have hcl9 : (es.take k).countP (lostB d1 d2 d3 (y0, y1, y2, y3, y4)) ≤ 9 := Nat.le_trans List.countP_le_length (by rw [List.length_take]; omega)
        obtain ⟨cn, hcn⟩ : ∃ cn, (es.take k).countP (lostB d1 d2 d3 (y0, y1, y2, y3, y4)) = cn := ⟨_, rfl⟩
        rw [hcn] at HST hcl9 ⊢
        clear hcn
        have hwr : IntKind.i64.wrap ((cn : Int) + 1) = (cn : Int) + 1 := IntWalk.i64_in _ (by omega)
        generalize hE : es.getD k e0 = E at *
        obtain ⟨⟨x0, x1, x2, x3, x4⟩, x5, x6⟩ := E
        clear hE
        dsimp only at q0 q1 q2 q3 q4 q5 q6
        obtain ⟨t_0, t_1, t_2, t_f⟩ := T8.out.three
        go_upto_region 15 with fail
        clear t_0 t_1 t_2 t_f
        obtain ⟨w9, hw9, b9, sz9, x9_0⟩ := head1 w8 69 [.int .i64 x0, .int .i64 x1, .int .i64 x2, .int .i64 x3, .int .i64 x4, .int .i64 x5, .int .i64 x6]
        have HW9 := Lib.hid hw9
        have z9 := (b9).size
        have D9 := Lib.hid (Below.step D8.out b9 (by omega))
        have I9 := Lib.hid (I8.out.below b9)
        have T9 := Lib.hid (T8.out.keep b9)
        have Fb9 := Lib.hid (Fb8.out.keep b9)
        have X9 := Lib.hid (X8.out.below b9)
        have B9 := Lib.hid (B8.out.keep b9)
        have G9 := Lib.hid (Below.step G8.out b9 (by omega))
        clear D8 I8 T8 Fb8 X8 B8 G8
        have E9 := Lib.hid (x9_0)
        clear hw9 b9 x9_0
        rw [← HW9.out]
        clear q0 q1 q2 q3 q4 q5 q6
        by_cases hq : ((x0, x1, x2, x3, x4) : F5) = (y0, y1, y2, y3, y4)
        · have hqe : ∀ w, (binOp .neq 37 (.agg #[.int .i64 x0, .int .i64 x1, .int .i64 x2, .int .i64 x3, .int .i64 x4]) (.agg #[.int .i64 y0, .int .i64 y1, .int .i64 y2, .int .i64 y3, .int .i64 y4])).run Try.prog w = .ok (.bool false) w := neqF_no' hq
          have HQ := Lib.hid hq
          clear hq
          obtain ⟨fb_0, fb_1, fb_2, fb_3, fb_4, fb_f⟩ := Fb9.out.five
          obtain ⟨e_0, e_1, e_2, e_3, e_4, e_5, e_6, e_f⟩ := E9.out.seven
          obtain ⟨b_0, b_1, b_2, b_f⟩ := B9.out.three
          go_upto_region 17 with fail
          clear fb_0 fb_1 fb_2 fb_3 fb_4 fb_f e_0 e_1 e_2 e_3 e_4 e_5 e_6 e_f b_0 b_1 b_2 b_f
          refine region_anyW _ 19 131 [88, 89, 90, 91, 92, 93, 94, 95, 96, 97, 98, 99, 100, 101, 102, 103, 104, 105, 106] [(88, .val (.pointer (some ⟨w8.heap.size, 0, none⟩))), (89, .val (.agg #[.int .i64 x0, .int .i64 x1, .int .i64 x2, .int .i64 x3, .int .i64 x4])), (90, .val (.agg #[.int .i64 y0, .int .i64 y1, .int .i64 y2, .int .i64 y3, .int .i64 y4])), (91, .val (.bool false)), (92, .val (.bool false)), (93, .val (undef)), (94, .val (undef)), (95, .val (undef)), (96, .val (undef)), (97, .val (undef)), (98, .val (.bool false)), (99, .val (.bool false)), (100, .val (undef)), (101, .val (undef)), (102, .val (undef)), (103, .val (undef)), (104, .val (undef)), (105, .val (undef)), (106, .val (undef))] rfl (by kernel_rfl) ?_ ?_
          · refine ⟨?_, ?_, ?_, ?_, ?_, ?_, ?_, ?_, ?_, ?_, ?_, ?_, ?_, ?_, ?_, ?_, ?_, ?_, ?_, trivial⟩
            · refine opW_free rfl rfl (op_val (d := 88) rfl (.pointer (some ⟨w8.heap.size, 0, none⟩)) (fun fr9 wq hf hd hb => ⟨?_, ?_⟩) _)
              rotate_left
              · exact rfl
              have e13 : fr9.tmps.getD 13 undef = .pointer (some ⟨w8.heap.size, 0, none⟩) := hf 13 (by kernel_rfl)
              simp [execOp, Act.eval, e13, go_sem]
            · refine opW_free rfl rfl (op_val (d := 89) rfl (.agg #[.int .i64 x0, .int .i64 x1, .int .i64 x2, .int .i64 x3, .int .i64 x4]) (fun fr9 wq hf hd hb => ⟨?_, ?_⟩) _)
              rotate_left
              · exact rfl
              have e88 : fr9.tmps.getD 88 undef = .pointer (some ⟨w8.heap.size, 0, none⟩) := hd 88 (by kernel_rfl)
              have hb9 := E9.out.keep hb
              have q0 : wq.cell? ⟨w8.heap.size, 0, none⟩ = some (.int .i64 x0) := hb9.cell 0
              have q1 : wq.cell? ⟨w8.heap.size, 1, none⟩ = some (.int .i64 x1) := hb9.cell 1
              have q2 : wq.cell? ⟨w8.heap.size, 2, none⟩ = some (.int .i64 x2) := hb9.cell 2
              have q3 : wq.cell? ⟨w8.heap.size, 3, none⟩ = some (.int .i64 x3) := hb9.cell 3
              have q4 : wq.cell? ⟨w8.heap.size, 4, none⟩ = some (.int .i64 x4) := hb9.cell 4
              simp [execOp, Act.eval, e88, q0, q1, q2, q3, q4, go_sem]
            · refine opW_free rfl rfl (op_val (d := 90) rfl (.agg #[.int .i64 y0, .int .i64 y1, .int .i64 y2, .int .i64 y3, .int .i64 y4]) (fun fr9 wq hf hd hb => ⟨?_, ?_⟩) _)
              rotate_left
              · exact rfl
              have e4 : fr9.tmps.getD 4 undef = .pointer (some ⟨(w1.heap.size + 1), 0, none⟩) := hf 4 (by kernel_rfl)
              have hb9 := Fb9.out.keep hb
              have q0 : wq.cell? ⟨(w1.heap.size + 1), 0, none⟩ = some (.int .i64 y0) := hb9.cell 0
              have q1 : wq.cell? ⟨(w1.heap.size + 1), 1, none⟩ = some (.int .i64 y1) := hb9.cell 1
              have q2 : wq.cell? ⟨(w1.heap.size + 1), 2, none⟩ = some (.int .i64 y2) := hb9.cell 2
              have q3 : wq.cell? ⟨(w1.heap.size + 1), 3, none⟩ = some (.int .i64 y3) := hb9.cell 3
              have q4 : wq.cell? ⟨(w1.heap.size + 1), 4, none⟩ = some (.int .i64 y4) := hb9.cell 4
              simp [execOp, Act.eval, e4, q0, q1, q2, q3, q4, go_sem]
            · refine opW_free rfl rfl (op_val (d := 91) rfl (.bool false) (fun fr9 wq hf hd hb => ⟨?_, ?_⟩) _)
              rotate_left
              · exact rfl
              have e89 : fr9.tmps.getD 89 undef = .agg #[.int .i64 x0, .int .i64 x1, .int .i64 x2, .int .i64 x3, .int .i64 x4] := hd 89 (by kernel_rfl)
              have e90 : fr9.tmps.getD 90 undef = .agg #[.int .i64 y0, .int .i64 y1, .int .i64 y2, .int .i64 y3, .int .i64 y4] := hd 90 (by kernel_rfl)
              simp [execOp, Act.eval, e89, e90, hqe, go_sem]
            · refine opW_free rfl rfl (op_val (d := 92) rfl (.bool false) (fun fr9 wq hf hd hb => ⟨?_, ?_⟩) _)
              rotate_left
              · exact rfl
              have e91 : fr9.tmps.getD 91 undef = .bool false := hd 91 (by kernel_rfl)
              exact (run_mv _ _ _ (.tmp 91) _ e91).1 rfl
            · exact opW_skip (d := 93) (s := 92) (b := false) rfl rfl rfl rfl (by kernel_rfl) rfl (by decide) rfl
            · exact opW_skip (d := 94) (s := 92) (b := false) rfl rfl rfl rfl (by kernel_rfl) rfl (by decide) rfl
            · exact opW_skip (d := 95) (s := 92) (b := false) rfl rfl rfl rfl (by kernel_rfl) rfl (by decide) rfl
            · exact opW_skip (d := 96) (s := 92) (b := false) rfl rfl rfl rfl (by kernel_rfl) rfl (by decide) rfl
            · exact opW_skip (d := 97) (s := 92) (b := false) rfl rfl rfl rfl (by kernel_rfl) rfl (by decide) rfl
            · refine opW_free rfl rfl (op_val (d := 98) rfl (.bool false) (fun fr9 wq hf hd hb => ⟨?_, ?_⟩) _)
              rotate_left
              · exact rfl
              have e92 : fr9.tmps.getD 92 undef = .bool false := hd 92 (by kernel_rfl)
              simp [execOp, Act.eval, e92, go_sem]
            · refine opW_free rfl rfl (op_val (d := 99) rfl (.bool false) (fun fr9 wq hf hd hb => ⟨?_, ?_⟩) _)
              rotate_left
              · exact rfl
              have e98 : fr9.tmps.getD 98 undef = .bool false := hd 98 (by kernel_rfl)
              exact (run_mv _ _ _ (.tmp 98) _ e98).1 rfl
            · exact opW_skip (d := 100) (s := 99) (b := false) rfl rfl rfl rfl (by kernel_rfl) rfl (by decide) rfl
            · exact opW_skip (d := 101) (s := 99) (b := false) rfl rfl rfl rfl (by kernel_rfl) rfl (by decide) rfl
            · exact opW_skip (d := 102) (s := 99) (b := false) rfl rfl rfl rfl (by kernel_rfl) rfl (by decide) rfl
            · exact opW_skip (d := 103) (s := 99) (b := false) rfl rfl rfl rfl (by kernel_rfl) rfl (by decide) rfl
            · exact opW_skip (d := 104) (s := 99) (b := false) rfl rfl rfl rfl (by kernel_rfl) rfl (by decide) rfl
            · exact opW_skip (d := 105) (s := 99) (b := false) rfl rfl rfl rfl (by kernel_rfl) rfl (by decide) rfl
            · exact opW_skip (d := 106) (s := 99) (b := false) rfl rfl rfl rfl (by kernel_rfl) rfl (by decide) rfl
          · intro fq wq hf hbq
            have e88 : fq 88 = .pointer (some ⟨w8.heap.size, 0, none⟩) := hf 88 (by decide)
            have e89 : fq 89 = .agg #[.int .i64 x0, .int .i64 x1, .int .i64 x2, .int .i64 x3, .int .i64 x4] := hf 89 (by decide)
            have e90 : fq 90 = .agg #[.int .i64 y0, .int .i64 y1, .int .i64 y2, .int .i64 y3, .int .i64 y4] := hf 90 (by decide)
            have e91 : fq 91 = .bool false := hf 91 (by decide)
            have e92 : fq 92 = .bool false := hf 92 (by decide)
            have e93 : fq 93 = undef := hf 93 (by decide)
            have e94 : fq 94 = undef := hf 94 (by decide)
            have e95 : fq 95 = undef := hf 95 (by decide)
            have e96 : fq 96 = undef := hf 96 (by decide)
            have e97 : fq 97 = undef := hf 97 (by decide)
            have e98 : fq 98 = .bool false := hf 98 (by decide)
            have e99 : fq 99 = .bool false := hf 99 (by decide)
            have e100 : fq 100 = undef := hf 100 (by decide)
            have e101 : fq 101 = undef := hf 101 (by decide)
            have e102 : fq 102 = undef := hf 102 (by decide)
            have e103 : fq 103 = undef := hf 103 (by decide)
            have e104 : fq 104 = undef := hf 104 (by decide)
            have e105 : fq 105 = undef := hf 105 (by decide)
            have e106 : fq 106 = undef := hf 106 (by decide)
            simp only [List.drop_succ_cons, List.drop_zero, putL, Act.put, List.setIfInBounds_toArray, List.set_cons_succ, List.set_cons_zero, e88, e89, e90, e91, e92, e93, e94, e95, e96, e97, e98, e99, e100, e101, e102, e103, e104, e105, e106]
            clear hf e88 e89 e90 e91 e92 e93 e94 e95 e96 e97 e98 e99 e100 e101 e102 e103 e104 e105 e106
            have QG := Lib.hid (Below.step G9.out hbq (by have := G9.out.size; omega))
            clear hbq
            go_wp2
            go_roundw
            case rel => exact ⟨k + 1, by omega, by go_num, by rw [HST.out, if_neg (by simp [lostB, HQ.out])]; rfl, QG.out⟩
            case measure => simp [intOf]; omega
        · have hqe : ∀ w, (binOp .neq 37 (.agg #[.int .i64 x0, .int .i64 x1, .int .i64 x2, .int .i64 x3, .int .i64 x4]) (.agg #[.int .i64 y0, .int .i64 y1, .int .i64 y2, .int .i64 y3, .int .i64 y4])).run Try.prog w = .ok (.bool true) w := neqF_yes' hq
          obtain ⟨hFK2, hx5⟩ := HO.out _ HM.out hq
          have HQ := Lib.hid hq
          clear hq
          have hx5 : 0 ≤ x5 := hx5
          obtain ⟨fb_0, fb_1, fb_2, fb_3, fb_4, fb_f⟩ := Fb9.out.five
          obtain ⟨e_0, e_1, e_2, e_3, e_4, e_5, e_6, e_f⟩ := E9.out.seven
          obtain ⟨b_0, b_1, b_2, b_f⟩ := B9.out.three
          go_wp2_with fail
          refine (c_FindFlow d1 d2 (x0, x1, x2, x3, x4) a3 d3.length c3 d3 _ rfl HDL.out X9.out).mono ?_
          rintro e w10 ⟨rfl, b10⟩
          clear fb_0 fb_1 fb_2 fb_3 fb_4 fb_f e_0 e_1 e_2 e_3 e_4 e_5 e_6 e_f b_0 b_1 b_2 b_f
          have z10 := (b10).size
          have D10 := Lib.hid (Below.step D9.out b10 (by omega))
          have I10 := Lib.hid (I9.out.below b10)
          have T10 := Lib.hid (T9.out.keep b10)
          have Fb10 := Lib.hid (Fb9.out.keep b10)
          have X10 := Lib.hid (X9.out.below b10)
          have B10 := Lib.hid (B9.out.keep b10)
          have G10 := Lib.hid (Below.step G9.out b10 (by omega))
          have E10 := Lib.hid (E9.out.keep b10)
          clear D9 I9 T9 Fb9 X9 B9 G9 E9
          clear b10
          rcases hFK2 with hFK | hFK
          · skip
            rw [hFK]
            have HFK := Lib.hid hFK
            obtain ⟨fb_0, fb_1, fb_2, fb_3, fb_4, fb_f⟩ := Fb10.out.five
            obtain ⟨e_0, e_1, e_2, e_3, e_4, e_5, e_6, e_f⟩ := E10.out.seven
            obtain ⟨b_0, b_1, b_2, b_f⟩ := B10.out.three
            go_upto_region 17 with fail
            clear fb_0 fb_1 fb_2 fb_3 fb_4 fb_f e_0 e_1 e_2 e_3 e_4 e_5 e_6 e_f b_0 b_1 b_2 b_f
            refine region_anyW _ 19 131 [88, 89, 90, 91, 92, 93, 94, 95, 96, 97, 98, 99, 100, 101, 102, 103, 104, 105, 106] [(88, .val (.pointer (some ⟨w8.heap.size, 0, none⟩))), (89, .val (.agg #[.int .i64 x0, .int .i64 x1, .int .i64 x2, .int .i64 x3, .int .i64 x4])), (90, .val (.agg #[.int .i64 y0, .int .i64 y1, .int .i64 y2, .int .i64 y3, .int .i64 y4])), (91, .val (.bool true)), (92, .val (.bool true)), (93, .val (.agg #[.int .i64 d1, .int .i64 d2, .slice a3 d3.length c3])), (94, .val (.pointer (some ⟨w8.heap.size, 0, none⟩))), (95, .val (.agg #[.int .i64 x0, .int .i64 x1, .int .i64 x2, .int .i64 x3, .int .i64 x4])), (96, .val (.int .i64 (-1))), (97, .val (.bool false)), (98, .val (.bool false)), (99, .val (.bool false)), (100, .val (undef)), (101, .val (undef)), (102, .val (undef)), (103, .val (undef)), (104, .val (undef)), (105, .val (undef)), (106, .val (undef))] rfl (by kernel_rfl) ?_ ?_
            · refine ⟨?_, ?_, ?_, ?_, ?_, ?_, ?_, ?_, ?_, ?_, ?_, ?_, ?_, ?_, ?_, ?_, ?_, ?_, ?_, trivial⟩
              · refine opW_free rfl rfl (op_val (d := 88) rfl (.pointer (some ⟨w8.heap.size, 0, none⟩)) (fun fr9 wq hf hd hb => ⟨?_, ?_⟩) _)
                rotate_left
                · exact rfl
                have e13 : fr9.tmps.getD 13 undef = .pointer (some ⟨w8.heap.size, 0, none⟩) := hf 13 (by kernel_rfl)
                simp [execOp, Act.eval, e13, go_sem]
              · refine opW_free rfl rfl (op_val (d := 89) rfl (.agg #[.int .i64 x0, .int .i64 x1, .int .i64 x2, .int .i64 x3, .int .i64 x4]) (fun fr9 wq hf hd hb => ⟨?_, ?_⟩) _)
                rotate_left
                · exact rfl
                have e88 : fr9.tmps.getD 88 undef = .pointer (some ⟨w8.heap.size, 0, none⟩) := hd 88 (by kernel_rfl)
                have hb9 := E10.out.keep hb
                have q0 : wq.cell? ⟨w8.heap.size, 0, none⟩ = some (.int .i64 x0) := hb9.cell 0
                have q1 : wq.cell? ⟨w8.heap.size, 1, none⟩ = some (.int .i64 x1) := hb9.cell 1
                have q2 : wq.cell? ⟨w8.heap.size, 2, none⟩ = some (.int .i64 x2) := hb9.cell 2
                have q3 : wq.cell? ⟨w8.heap.size, 3, none⟩ = some (.int .i64 x3) := hb9.cell 3
                have q4 : wq.cell? ⟨w8.heap.size, 4, none⟩ = some (.int .i64 x4) := hb9.cell 4
                simp [execOp, Act.eval, e88, q0, q1, q2, q3, q4, go_sem]
              · refine opW_free rfl rfl (op_val (d := 90) rfl (.agg #[.int .i64 y0, .int .i64 y1, .int .i64 y2, .int .i64 y3, .int .i64 y4]) (fun fr9 wq hf hd hb => ⟨?_, ?_⟩) _)
                rotate_left
                · exact rfl
                have e4 : fr9.tmps.getD 4 undef = .pointer (some ⟨(w1.heap.size + 1), 0, none⟩) := hf 4 (by kernel_rfl)
                have hb9 := Fb10.out.keep hb
                have q0 : wq.cell? ⟨(w1.heap.size + 1), 0, none⟩ = some (.int .i64 y0) := hb9.cell 0
                have q1 : wq.cell? ⟨(w1.heap.size + 1), 1, none⟩ = some (.int .i64 y1) := hb9.cell 1
                have q2 : wq.cell? ⟨(w1.heap.size + 1), 2, none⟩ = some (.int .i64 y2) := hb9.cell 2
                have q3 : wq.cell? ⟨(w1.heap.size + 1), 3, none⟩ = some (.int .i64 y3) := hb9.cell 3
                have q4 : wq.cell? ⟨(w1.heap.size + 1), 4, none⟩ = some (.int .i64 y4) := hb9.cell 4
                simp [execOp, Act.eval, e4, q0, q1, q2, q3, q4, go_sem]
              · refine opW_free rfl rfl (op_val (d := 91) rfl (.bool true) (fun fr9 wq hf hd hb => ⟨?_, ?_⟩) _)
                rotate_left
                · exact rfl
                have e89 : fr9.tmps.getD 89 undef = .agg #[.int .i64 x0, .int .i64 x1, .int .i64 x2, .int .i64 x3, .int .i64 x4] := hd 89 (by kernel_rfl)
                have e90 : fr9.tmps.getD 90 undef = .agg #[.int .i64 y0, .int .i64 y1, .int .i64 y2, .int .i64 y3, .int .i64 y4] := hd 90 (by kernel_rfl)
                simp [execOp, Act.eval, e89, e90, hqe, go_sem]
              · refine opW_free rfl rfl (op_val (d := 92) rfl (.bool true) (fun fr9 wq hf hd hb => ⟨?_, ?_⟩) _)
                rotate_left
                · exact rfl
                have e91 : fr9.tmps.getD 91 undef = .bool true := hd 91 (by kernel_rfl)
                exact (run_mv _ _ _ (.tmp 91) _ e91).1 rfl
              · refine opW_want (s := 92) rfl rfl rfl (by kernel_rfl) rfl (op_val (d := 93) rfl (.agg #[.int .i64 d1, .int .i64 d2, .slice a3 d3.length c3]) (fun fr9 wq hf hd hb => ⟨?_, ?_⟩) _)
                rotate_left
                · exact rfl
                have e7 : fr9.tmps.getD 7 undef = .pointer (some ⟨w3.heap.size, 0, none⟩) := hf 7 (by kernel_rfl)
                have hb9 := B10.out.keep hb
                have q0 : wq.cell? ⟨w3.heap.size, 0, none⟩ = some (.int .i64 d1) := hb9.cell 0
                have q1 : wq.cell? ⟨w3.heap.size, 1, none⟩ = some (.int .i64 d2) := hb9.cell 1
                have q2 : wq.cell? ⟨w3.heap.size, 2, none⟩ = some (.slice a3 d3.length c3) := hb9.cell 2
                simp [execOp, Act.eval, e7, q0, q1, q2, go_sem]
              · refine opW_want (s := 92) rfl rfl rfl (by kernel_rfl) rfl (op_val (d := 94) rfl (.pointer (some ⟨w8.heap.size, 0, none⟩)) (fun fr9 wq hf hd hb => ⟨?_, ?_⟩) _)
                rotate_left
                · exact rfl
                have e13 : fr9.tmps.getD 13 undef = .pointer (some ⟨w8.heap.size, 0, none⟩) := hf 13 (by kernel_rfl)
                simp [execOp, Act.eval, e13, go_sem]
              · refine opW_want (s := 92) rfl rfl rfl (by kernel_rfl) rfl (op_val (d := 95) rfl (.agg #[.int .i64 x0, .int .i64 x1, .int .i64 x2, .int .i64 x3, .int .i64 x4]) (fun fr9 wq hf hd hb => ⟨?_, ?_⟩) _)
                rotate_left
                · exact rfl
                have e94 : fr9.tmps.getD 94 undef = .pointer (some ⟨w8.heap.size, 0, none⟩) := hd 94 (by kernel_rfl)
                have hb9 := E10.out.keep hb
                have q0 : wq.cell? ⟨w8.heap.size, 0, none⟩ = some (.int .i64 x0) := hb9.cell 0
                have q1 : wq.cell? ⟨w8.heap.size, 1, none⟩ = some (.int .i64 x1) := hb9.cell 1
                have q2 : wq.cell? ⟨w8.heap.size, 2, none⟩ = some (.int .i64 x2) := hb9.cell 2
                have q3 : wq.cell? ⟨w8.heap.size, 3, none⟩ = some (.int .i64 x3) := hb9.cell 3
                have q4 : wq.cell? ⟨w8.heap.size, 4, none⟩ = some (.int .i64 x4) := hb9.cell 4
                simp [execOp, Act.eval, e94, q0, q1, q2, q3, q4, go_sem]
              · refine opW_want (s := 92) rfl rfl rfl (by kernel_rfl) rfl ?_
                intro fr9 wq hf hd hb
                have e93 : fr9.tmps.getD 93 undef = .agg #[.int .i64 d1, .int .i64 d2, .slice a3 d3.length c3] := hd 93 (by kernel_rfl)
                have e95 : fr9.tmps.getD 95 undef = .agg #[.int .i64 x0, .int .i64 x1, .int .i64 x2, .int .i64 x3, .int .i64 x4] := hd 95 (by kernel_rfl)
                have hv9 : (#[Operand.tmp 93, Operand.tmp 95] : Array Operand).map fr9.eval = #[.agg #[.int .i64 d1, .int .i64 d2, .slice a3 d3.length c3], .agg #[.int .i64 x0, .int .i64 x1, .int .i64 x2, .int .i64 x3, .int .i64 x4]] := by simp only [List.map_toArray, List.map_cons, List.map_nil, Act.eval, e93, e95]
                refine ⟨96, rfl, op_call rfl (run_callL _ _ _ 41 _ _ _ rfl rfl hv9 (enters_of Try.func41 (by kernel_rfl) rfl)) ?_⟩
                refine (c_FindFlow d1 d2 (x0, x1, x2, x3, x4) a3 d3.length c3 d3 wq rfl HDL.out (X10.out.below hb)).mono ?_
                rintro e w5 ⟨rfl, g5⟩
                exact ⟨_, rfl, _, rfl, (congrArg (Value.int .i64) hFK), g5⟩
              · refine opW_want (s := 92) rfl rfl rfl (by kernel_rfl) rfl (op_val (d := 97) rfl (.bool false) (fun fr9 wq hf hd hb => ⟨?_, ?_⟩) _)
                rotate_left
                · exact rfl
                have e96 : fr9.tmps.getD 96 undef = .int .i64 (-1) := hd 96 (by kernel_rfl)
                simp [execOp, Act.eval, e96, go_sem]
              · refine opW_free rfl rfl (op_val (d := 98) rfl (.bool false) (fun fr9 wq hf hd hb => ⟨?_, ?_⟩) _)
                rotate_left
                · exact rfl
                have e92 : fr9.tmps.getD 92 undef = .bool true := hd 92 (by kernel_rfl)
                have e97 : fr9.tmps.getD 97 undef = .bool false := hd 97 (by kernel_rfl)
                simp [execOp, Act.eval, e92, e97, go_sem]
              · refine opW_free rfl rfl (op_val (d := 99) rfl (.bool false) (fun fr9 wq hf hd hb => ⟨?_, ?_⟩) _)
                rotate_left
                · exact rfl
                have e98 : fr9.tmps.getD 98 undef = .bool false := hd 98 (by kernel_rfl)
                exact (run_mv _ _ _ (.tmp 98) _ e98).1 rfl
              · exact opW_skip (d := 100) (s := 99) (b := false) rfl rfl rfl rfl (by kernel_rfl) rfl (by decide) rfl
              · exact opW_skip (d := 101) (s := 99) (b := false) rfl rfl rfl rfl (by kernel_rfl) rfl (by decide) rfl
              · exact opW_skip (d := 102) (s := 99) (b := false) rfl rfl rfl rfl (by kernel_rfl) rfl (by decide) rfl
              · exact opW_skip (d := 103) (s := 99) (b := false) rfl rfl rfl rfl (by kernel_rfl) rfl (by decide) rfl
              · exact opW_skip (d := 104) (s := 99) (b := false) rfl rfl rfl rfl (by kernel_rfl) rfl (by decide) rfl
              · exact opW_skip (d := 105) (s := 99) (b := false) rfl rfl rfl rfl (by kernel_rfl) rfl (by decide) rfl
              · exact opW_skip (d := 106) (s := 99) (b := false) rfl rfl rfl rfl (by kernel_rfl) rfl (by decide) rfl
            · intro fq wq hf hbq
              have e88 : fq 88 = .pointer (some ⟨w8.heap.size, 0, none⟩) := hf 88 (by decide)
              have e89 : fq 89 = .agg #[.int .i64 x0, .int .i64 x1, .int .i64 x2, .int .i64 x3, .int .i64 x4] := hf 89 (by decide)
              have e90 : fq 90 = .agg #[.int .i64 y0, .int .i64 y1, .int .i64 y2, .int .i64 y3, .int .i64 y4] := hf 90 (by decide)
              have e91 : fq 91 = .bool true := hf 91 (by decide)
              have e92 : fq 92 = .bool true := hf 92 (by decide)
              have e93 : fq 93 = .agg #[.int .i64 d1, .int .i64 d2, .slice a3 d3.length c3] := hf 93 (by decide)
              have e94 : fq 94 = .pointer (some ⟨w8.heap.size, 0, none⟩) := hf 94 (by decide)
              have e95 : fq 95 = .agg #[.int .i64 x0, .int .i64 x1, .int .i64 x2, .int .i64 x3, .int .i64 x4] := hf 95 (by decide)
              have e96 : fq 96 = .int .i64 (-1) := hf 96 (by decide)
              have e97 : fq 97 = .bool false := hf 97 (by decide)
              have e98 : fq 98 = .bool false := hf 98 (by decide)
              have e99 : fq 99 = .bool false := hf 99 (by decide)
              have e100 : fq 100 = undef := hf 100 (by decide)
              have e101 : fq 101 = undef := hf 101 (by decide)
              have e102 : fq 102 = undef := hf 102 (by decide)
              have e103 : fq 103 = undef := hf 103 (by decide)
              have e104 : fq 104 = undef := hf 104 (by decide)
              have e105 : fq 105 = undef := hf 105 (by decide)
              have e106 : fq 106 = undef := hf 106 (by decide)
              simp only [List.drop_succ_cons, List.drop_zero, putL, Act.put, List.setIfInBounds_toArray, List.set_cons_succ, List.set_cons_zero, e88, e89, e90, e91, e92, e93, e94, e95, e96, e97, e98, e99, e100, e101, e102, e103, e104, e105, e106]
              clear hf e88 e89 e90 e91 e92 e93 e94 e95 e96 e97 e98 e99 e100 e101 e102 e103 e104 e105 e106
              have QG := Lib.hid (Below.step G10.out hbq (by have := G10.out.size; omega))
              clear hbq
              go_wp2
              go_roundw
              case rel => exact ⟨k + 1, by omega, by go_num, by rw [HST.out, if_pos (by simp only [lostB, HFK.out, Bool.and_eq_true, Bool.not_eq_true', decide_eq_false_iff_not, decide_eq_true_eq, and_true]; exact HQ.out)]; go_num, QG.out⟩
              case measure => simp [intOf]; omega
          · skip
            have hx5' : ¬ x5 = -1 := by omega
            rw [hFK]
            have HFK := Lib.hid hFK
            obtain ⟨fb_0, fb_1, fb_2, fb_3, fb_4, fb_f⟩ := Fb10.out.five
            obtain ⟨e_0, e_1, e_2, e_3, e_4, e_5, e_6, e_f⟩ := E10.out.seven
            obtain ⟨b_0, b_1, b_2, b_f⟩ := B10.out.three
            go_upto_region 17 with fail
            clear fb_0 fb_1 fb_2 fb_3 fb_4 fb_f e_0 e_1 e_2 e_3 e_4 e_5 e_6 e_f b_0 b_1 b_2 b_f
            refine region_anyW _ 19 131 [88, 89, 90, 91, 92, 93, 94, 95, 96, 97, 98, 99, 100, 101, 102, 103, 104, 105, 106] [(88, .val (.pointer (some ⟨w8.heap.size, 0, none⟩))), (89, .val (.agg #[.int .i64 x0, .int .i64 x1, .int .i64 x2, .int .i64 x3, .int .i64 x4])), (90, .val (.agg #[.int .i64 y0, .int .i64 y1, .int .i64 y2, .int .i64 y3, .int .i64 y4])), (91, .val (.bool true)), (92, .val (.bool true)), (93, .val (.agg #[.int .i64 d1, .int .i64 d2, .slice a3 d3.length c3])), (94, .val (.pointer (some ⟨w8.heap.size, 0, none⟩))), (95, .val (.agg #[.int .i64 x0, .int .i64 x1, .int .i64 x2, .int .i64 x3, .int .i64 x4])), (96, .val (.int .i64 (x5))), (97, .val (.bool true)), (98, .val (.bool true)), (99, .val (.bool true)), (100, .val (.agg #[.int .i64 d1, .int .i64 d2, .slice a3 d3.length c3])), (101, .val (.pointer (some ⟨w8.heap.size, 0, none⟩))), (102, .val (.agg #[.int .i64 x0, .int .i64 x1, .int .i64 x2, .int .i64 x3, .int .i64 x4])), (103, .val (.int .i64 (x5))), (104, .val (.pointer (some ⟨w8.heap.size, 5, none⟩))), (105, .val (.int .i64 x5)), (106, .val (.bool false))] rfl (by kernel_rfl) ?_ ?_
            · refine ⟨?_, ?_, ?_, ?_, ?_, ?_, ?_, ?_, ?_, ?_, ?_, ?_, ?_, ?_, ?_, ?_, ?_, ?_, ?_, trivial⟩
              · refine opW_free rfl rfl (op_val (d := 88) rfl (.pointer (some ⟨w8.heap.size, 0, none⟩)) (fun fr9 wq hf hd hb => ⟨?_, ?_⟩) _)
                rotate_left
                · exact rfl
                have e13 : fr9.tmps.getD 13 undef = .pointer (some ⟨w8.heap.size, 0, none⟩) := hf 13 (by kernel_rfl)
                simp [execOp, Act.eval, e13, go_sem]
              · refine opW_free rfl rfl (op_val (d := 89) rfl (.agg #[.int .i64 x0, .int .i64 x1, .int .i64 x2, .int .i64 x3, .int .i64 x4]) (fun fr9 wq hf hd hb => ⟨?_, ?_⟩) _)
                rotate_left
                · exact rfl
                have e88 : fr9.tmps.getD 88 undef = .pointer (some ⟨w8.heap.size, 0, none⟩) := hd 88 (by kernel_rfl)
                have hb9 := E10.out.keep hb
                have q0 : wq.cell? ⟨w8.heap.size, 0, none⟩ = some (.int .i64 x0) := hb9.cell 0
                have q1 : wq.cell? ⟨w8.heap.size, 1, none⟩ = some (.int .i64 x1) := hb9.cell 1
                have q2 : wq.cell? ⟨w8.heap.size, 2, none⟩ = some (.int .i64 x2) := hb9.cell 2
                have q3 : wq.cell? ⟨w8.heap.size, 3, none⟩ = some (.int .i64 x3) := hb9.cell 3
                have q4 : wq.cell? ⟨w8.heap.size, 4, none⟩ = some (.int .i64 x4) := hb9.cell 4
                simp [execOp, Act.eval, e88, q0, q1, q2, q3, q4, go_sem]
              · refine opW_free rfl rfl (op_val (d := 90) rfl (.agg #[.int .i64 y0, .int .i64 y1, .int .i64 y2, .int .i64 y3, .int .i64 y4]) (fun fr9 wq hf hd hb => ⟨?_, ?_⟩) _)
                rotate_left
                · exact rfl
                have e4 : fr9.tmps.getD 4 undef = .pointer (some ⟨(w1.heap.size + 1), 0, none⟩) := hf 4 (by kernel_rfl)
                have hb9 := Fb10.out.keep hb
                have q0 : wq.cell? ⟨(w1.heap.size + 1), 0, none⟩ = some (.int .i64 y0) := hb9.cell 0
                have q1 : wq.cell? ⟨(w1.heap.size + 1), 1, none⟩ = some (.int .i64 y1) := hb9.cell 1
                have q2 : wq.cell? ⟨(w1.heap.size + 1), 2, none⟩ = some (.int .i64 y2) := hb9.cell 2
                have q3 : wq.cell? ⟨(w1.heap.size + 1), 3, none⟩ = some (.int .i64 y3) := hb9.cell 3
                have q4 : wq.cell? ⟨(w1.heap.size + 1), 4, none⟩ = some (.int .i64 y4) := hb9.cell 4
                simp [execOp, Act.eval, e4, q0, q1, q2, q3, q4, go_sem]
              · refine opW_free rfl rfl (op_val (d := 91) rfl (.bool true) (fun fr9 wq hf hd hb => ⟨?_, ?_⟩) _)
                rotate_left
                · exact rfl
                have e89 : fr9.tmps.getD 89 undef = .agg #[.int .i64 x0, .int .i64 x1, .int .i64 x2, .int .i64 x3, .int .i64 x4] := hd 89 (by kernel_rfl)
                have e90 : fr9.tmps.getD 90 undef = .agg #[.int .i64 y0, .int .i64 y1, .int .i64 y2, .int .i64 y3, .int .i64 y4] := hd 90 (by kernel_rfl)
                simp [execOp, Act.eval, e89, e90, hqe, go_sem]
              · refine opW_free rfl rfl (op_val (d := 92) rfl (.bool true) (fun fr9 wq hf hd hb => ⟨?_, ?_⟩) _)
                rotate_left
                · exact rfl
                have e91 : fr9.tmps.getD 91 undef = .bool true := hd 91 (by kernel_rfl)
                exact (run_mv _ _ _ (.tmp 91) _ e91).1 rfl
              · refine opW_want (s := 92) rfl rfl rfl (by kernel_rfl) rfl (op_val (d := 93) rfl (.agg #[.int .i64 d1, .int .i64 d2, .slice a3 d3.length c3]) (fun fr9 wq hf hd hb => ⟨?_, ?_⟩) _)
                rotate_left
                · exact rfl
                have e7 : fr9.tmps.getD 7 undef = .pointer (some ⟨w3.heap.size, 0, none⟩) := hf 7 (by kernel_rfl)
                have hb9 := B10.out.keep hb
                have q0 : wq.cell? ⟨w3.heap.size, 0, none⟩ = some (.int .i64 d1) := hb9.cell 0
                have q1 : wq.cell? ⟨w3.heap.size, 1, none⟩ = some (.int .i64 d2) := hb9.cell 1
                have q2 : wq.cell? ⟨w3.heap.size, 2, none⟩ = some (.slice a3 d3.length c3) := hb9.cell 2
                simp [execOp, Act.eval, e7, q0, q1, q2, go_sem]
              · refine opW_want (s := 92) rfl rfl rfl (by kernel_rfl) rfl (op_val (d := 94) rfl (.pointer (some ⟨w8.heap.size, 0, none⟩)) (fun fr9 wq hf hd hb => ⟨?_, ?_⟩) _)
                rotate_left
                · exact rfl
                have e13 : fr9.tmps.getD 13 undef = .pointer (some ⟨w8.heap.size, 0, none⟩) := hf 13 (by kernel_rfl)
                simp [execOp, Act.eval, e13, go_sem]
              · refine opW_want (s := 92) rfl rfl rfl (by kernel_rfl) rfl (op_val (d := 95) rfl (.agg #[.int .i64 x0, .int .i64 x1, .int .i64 x2, .int .i64 x3, .int .i64 x4]) (fun fr9 wq hf hd hb => ⟨?_, ?_⟩) _)
                rotate_left
                · exact rfl
                have e94 : fr9.tmps.getD 94 undef = .pointer (some ⟨w8.heap.size, 0, none⟩) := hd 94 (by kernel_rfl)
                have hb9 := E10.out.keep hb
                have q0 : wq.cell? ⟨w8.heap.size, 0, none⟩ = some (.int .i64 x0) := hb9.cell 0
                have q1 : wq.cell? ⟨w8.heap.size, 1, none⟩ = some (.int .i64 x1) := hb9.cell 1
                have q2 : wq.cell? ⟨w8.heap.size, 2, none⟩ = some (.int .i64 x2) := hb9.cell 2
                have q3 : wq.cell? ⟨w8.heap.size, 3, none⟩ = some (.int .i64 x3) := hb9.cell 3
                have q4 : wq.cell? ⟨w8.heap.size, 4, none⟩ = some (.int .i64 x4) := hb9.cell 4
                simp [execOp, Act.eval, e94, q0, q1, q2, q3, q4, go_sem]
              · refine opW_want (s := 92) rfl rfl rfl (by kernel_rfl) rfl ?_
                intro fr9 wq hf hd hb
                have e93 : fr9.tmps.getD 93 undef = .agg #[.int .i64 d1, .int .i64 d2, .slice a3 d3.length c3] := hd 93 (by kernel_rfl)
                have e95 : fr9.tmps.getD 95 undef = .agg #[.int .i64 x0, .int .i64 x1, .int .i64 x2, .int .i64 x3, .int .i64 x4] := hd 95 (by kernel_rfl)
                have hv9 : (#[Operand.tmp 93, Operand.tmp 95] : Array Operand).map fr9.eval = #[.agg #[.int .i64 d1, .int .i64 d2, .slice a3 d3.length c3], .agg #[.int .i64 x0, .int .i64 x1, .int .i64 x2, .int .i64 x3, .int .i64 x4]] := by simp only [List.map_toArray, List.map_cons, List.map_nil, Act.eval, e93, e95]
                refine ⟨96, rfl, op_call rfl (run_callL _ _ _ 41 _ _ _ rfl rfl hv9 (enters_of Try.func41 (by kernel_rfl) rfl)) ?_⟩
                refine (c_FindFlow d1 d2 (x0, x1, x2, x3, x4) a3 d3.length c3 d3 wq rfl HDL.out (X10.out.below hb)).mono ?_
                rintro e w5 ⟨rfl, g5⟩
                exact ⟨_, rfl, _, rfl, (congrArg (Value.int .i64) hFK), g5⟩
              · refine opW_want (s := 92) rfl rfl rfl (by kernel_rfl) rfl (op_val (d := 97) rfl (.bool true) (fun fr9 wq hf hd hb => ⟨?_, ?_⟩) _)
                rotate_left
                · exact rfl
                have e96 : fr9.tmps.getD 96 undef = .int .i64 (x5) := hd 96 (by kernel_rfl)
                simp [execOp, Act.eval, e96, hx5, go_sem]
              · refine opW_free rfl rfl (op_val (d := 98) rfl (.bool true) (fun fr9 wq hf hd hb => ⟨?_, ?_⟩) _)
                rotate_left
                · exact rfl
                have e92 : fr9.tmps.getD 92 undef = .bool true := hd 92 (by kernel_rfl)
                have e97 : fr9.tmps.getD 97 undef = .bool true := hd 97 (by kernel_rfl)
                simp [execOp, Act.eval, e92, e97, go_sem]
              · refine opW_free rfl rfl (op_val (d := 99) rfl (.bool true) (fun fr9 wq hf hd hb => ⟨?_, ?_⟩) _)
                rotate_left
                · exact rfl
                have e98 : fr9.tmps.getD 98 undef = .bool true := hd 98 (by kernel_rfl)
                exact (run_mv _ _ _ (.tmp 98) _ e98).1 rfl
              · refine opW_want (s := 99) rfl rfl rfl (by kernel_rfl) rfl (op_val (d := 100) rfl (.agg #[.int .i64 d1, .int .i64 d2, .slice a3 d3.length c3]) (fun fr9 wq hf hd hb => ⟨?_, ?_⟩) _)
                rotate_left
                · exact rfl
                have e7 : fr9.tmps.getD 7 undef = .pointer (some ⟨w3.heap.size, 0, none⟩) := hf 7 (by kernel_rfl)
                have hb9 := B10.out.keep hb
                have q0 : wq.cell? ⟨w3.heap.size, 0, none⟩ = some (.int .i64 d1) := hb9.cell 0
                have q1 : wq.cell? ⟨w3.heap.size, 1, none⟩ = some (.int .i64 d2) := hb9.cell 1
                have q2 : wq.cell? ⟨w3.heap.size, 2, none⟩ = some (.slice a3 d3.length c3) := hb9.cell 2
                simp [execOp, Act.eval, e7, q0, q1, q2, go_sem]
              · refine opW_want (s := 99) rfl rfl rfl (by kernel_rfl) rfl (op_val (d := 101) rfl (.pointer (some ⟨w8.heap.size, 0, none⟩)) (fun fr9 wq hf hd hb => ⟨?_, ?_⟩) _)
                rotate_left
                · exact rfl
                have e13 : fr9.tmps.getD 13 undef = .pointer (some ⟨w8.heap.size, 0, none⟩) := hf 13 (by kernel_rfl)
                simp [execOp, Act.eval, e13, go_sem]
              · refine opW_want (s := 99) rfl rfl rfl (by kernel_rfl) rfl (op_val (d := 102) rfl (.agg #[.int .i64 x0, .int .i64 x1, .int .i64 x2, .int .i64 x3, .int .i64 x4]) (fun fr9 wq hf hd hb => ⟨?_, ?_⟩) _)
                rotate_left
                · exact rfl
                have e101 : fr9.tmps.getD 101 undef = .pointer (some ⟨w8.heap.size, 0, none⟩) := hd 101 (by kernel_rfl)
                have hb9 := E10.out.keep hb
                have q0 : wq.cell? ⟨w8.heap.size, 0, none⟩ = some (.int .i64 x0) := hb9.cell 0
                have q1 : wq.cell? ⟨w8.heap.size, 1, none⟩ = some (.int .i64 x1) := hb9.cell 1
                have q2 : wq.cell? ⟨w8.heap.size, 2, none⟩ = some (.int .i64 x2) := hb9.cell 2
                have q3 : wq.cell? ⟨w8.heap.size, 3, none⟩ = some (.int .i64 x3) := hb9.cell 3
                have q4 : wq.cell? ⟨w8.heap.size, 4, none⟩ = some (.int .i64 x4) := hb9.cell 4
                simp [execOp, Act.eval, e101, q0, q1, q2, q3, q4, go_sem]
              · refine opW_want (s := 99) rfl rfl rfl (by kernel_rfl) rfl ?_
                intro fr9 wq hf hd hb
                have e100 : fr9.tmps.getD 100 undef = .agg #[.int .i64 d1, .int .i64 d2, .slice a3 d3.length c3] := hd 100 (by kernel_rfl)
                have e102 : fr9.tmps.getD 102 undef = .agg #[.int .i64 x0, .int .i64 x1, .int .i64 x2, .int .i64 x3, .int .i64 x4] := hd 102 (by kernel_rfl)
                have hv9 : (#[Operand.tmp 100, Operand.tmp 102] : Array Operand).map fr9.eval = #[.agg #[.int .i64 d1, .int .i64 d2, .slice a3 d3.length c3], .agg #[.int .i64 x0, .int .i64 x1, .int .i64 x2, .int .i64 x3, .int .i64 x4]] := by simp only [List.map_toArray, List.map_cons, List.map_nil, Act.eval, e100, e102]
                refine ⟨103, rfl, op_call rfl (run_callL _ _ _ 41 _ _ _ rfl rfl hv9 (enters_of Try.func41 (by kernel_rfl) rfl)) ?_⟩
                refine (c_FindFlow d1 d2 (x0, x1, x2, x3, x4) a3 d3.length c3 d3 wq rfl HDL.out (X10.out.below hb)).mono ?_
                rintro e w5 ⟨rfl, g5⟩
                exact ⟨_, rfl, _, rfl, (congrArg (Value.int .i64) hFK), g5⟩
              · refine opW_want (s := 99) rfl rfl rfl (by kernel_rfl) rfl (op_val (d := 104) rfl (.pointer (some ⟨w8.heap.size, 5, none⟩)) (fun fr9 wq hf hd hb => ⟨?_, ?_⟩) _)
                rotate_left
                · exact rfl
                have e13 : fr9.tmps.getD 13 undef = .pointer (some ⟨w8.heap.size, 0, none⟩) := hf 13 (by kernel_rfl)
                simp [execOp, Act.eval, e13, go_sem]
              · refine opW_want (s := 99) rfl rfl rfl (by kernel_rfl) rfl (op_val (d := 105) rfl (.int .i64 x5) (fun fr9 wq hf hd hb => ⟨?_, ?_⟩) _)
                rotate_left
                · exact rfl
                have e104 : fr9.tmps.getD 104 undef = .pointer (some ⟨w8.heap.size, 5, none⟩) := hd 104 (by kernel_rfl)
                have hb9 := E10.out.keep hb
                have q9 : wq.cell? ⟨w8.heap.size, 5, none⟩ = some (.int .i64 x5) := hb9.cell 5
                simp [execOp, Act.eval, e104, q9, go_sem]
              · refine opW_want (s := 99) rfl rfl rfl (by kernel_rfl) rfl (op_val (d := 106) rfl (.bool false) (fun fr9 wq hf hd hb => ⟨?_, ?_⟩) _)
                rotate_left
                · exact rfl
                have e103 : fr9.tmps.getD 103 undef = .int .i64 (x5) := hd 103 (by kernel_rfl)
                have e105 : fr9.tmps.getD 105 undef = .int .i64 x5 := hd 105 (by kernel_rfl)
                simp [execOp, Act.eval, e103, e105, go_sem]
            · intro fq wq hf hbq
              have e88 : fq 88 = .pointer (some ⟨w8.heap.size, 0, none⟩) := hf 88 (by decide)
              have e89 : fq 89 = .agg #[.int .i64 x0, .int .i64 x1, .int .i64 x2, .int .i64 x3, .int .i64 x4] := hf 89 (by decide)
              have e90 : fq 90 = .agg #[.int .i64 y0, .int .i64 y1, .int .i64 y2, .int .i64 y3, .int .i64 y4] := hf 90 (by decide)
              have e91 : fq 91 = .bool true := hf 91 (by decide)
              have e92 : fq 92 = .bool true := hf 92 (by decide)
              have e93 : fq 93 = .agg #[.int .i64 d1, .int .i64 d2, .slice a3 d3.length c3] := hf 93 (by decide)
              have e94 : fq 94 = .pointer (some ⟨w8.heap.size, 0, none⟩) := hf 94 (by decide)
              have e95 : fq 95 = .agg #[.int .i64 x0, .int .i64 x1, .int .i64 x2, .int .i64 x3, .int .i64 x4] := hf 95 (by decide)
              have e96 : fq 96 = .int .i64 (x5) := hf 96 (by decide)
              have e97 : fq 97 = .bool true := hf 97 (by decide)
              have e98 : fq 98 = .bool true := hf 98 (by decide)
              have e99 : fq 99 = .bool true := hf 99 (by decide)
              have e100 : fq 100 = .agg #[.int .i64 d1, .int .i64 d2, .slice a3 d3.length c3] := hf 100 (by decide)
              have e101 : fq 101 = .pointer (some ⟨w8.heap.size, 0, none⟩) := hf 101 (by decide)
              have e102 : fq 102 = .agg #[.int .i64 x0, .int .i64 x1, .int .i64 x2, .int .i64 x3, .int .i64 x4] := hf 102 (by decide)
              have e103 : fq 103 = .int .i64 (x5) := hf 103 (by decide)
              have e104 : fq 104 = .pointer (some ⟨w8.heap.size, 5, none⟩) := hf 104 (by decide)
              have e105 : fq 105 = .int .i64 x5 := hf 105 (by decide)
              have e106 : fq 106 = .bool false := hf 106 (by decide)
              simp only [List.drop_succ_cons, List.drop_zero, putL, Act.put, List.setIfInBounds_toArray, List.set_cons_succ, List.set_cons_zero, e88, e89, e90, e91, e92, e93, e94, e95, e96, e97, e98, e99, e100, e101, e102, e103, e104, e105, e106]
              clear hf e88 e89 e90 e91 e92 e93 e94 e95 e96 e97 e98 e99 e100 e101 e102 e103 e104 e105 e106
              have QG := Lib.hid (Below.step G10.out hbq (by have := G10.out.size; omega))
              clear hbq
              go_wp2
              go_roundw
              case rel => exact ⟨k + 1, by omega, by go_num, by rw [HST.out, if_neg (by simp only [lostB, HFK.out, Bool.and_eq_true, Bool.not_eq_true', decide_eq_false_iff_not, decide_eq_true_eq]; omega)]; rfl, QG.out⟩
              case measure => simp [intOf]; omega
      · obtain rfl : n = k := by omega
        have hl1 := HL1.out
        have hl0 := HL0.out
        rw [List.take_of_length_le (by rw [HN.out]; exact Nat.le_refl _)]
        obtain ⟨cn, hcn⟩ : ∃ cn, es.countP (lostB d1 d2 d3 (y0, y1, y2, y3, y4)) = cn := ⟨_, rfl⟩
        rw [hcn] at hl1 hl0 ⊢
        clear hcn
        have hl1' : (cn : Int) ≤ 1 := by omega
        obtain ⟨t_0, t_1, t_2, t_f⟩ := T8.out.three
        obtain ⟨b_0, b_1, b_2, b_f⟩ := B8.out.three
        go_wp2_with fail
        refine (c_TableValid d1 d2 a3 d3.length c3 d3 _ rfl HDL.out X8.out).mono ?_
        rintro e w9 ⟨rfl, b9⟩
        clear t_0 t_1 t_2 t_f b_0 b_1 b_2 b_f
        have z9 := (b9).size
        have D9 := Lib.hid (Below.step D8.out b9 (by omega))
        have I9 := Lib.hid (I8.out.below b9)
        have T9 := Lib.hid (T8.out.keep b9)
        have Fb9 := Lib.hid (Fb8.out.keep b9)
        have X9 := Lib.hid (X8.out.below b9)
        have B9 := Lib.hid (B8.out.keep b9)
        have G9 := Lib.hid (Below.step G8.out b9 (by omega))
        clear D8 I8 T8 Fb8 X8 B8 G8
        clear b9
        rw [HV.out]
        obtain ⟨b_0, b_1, b_2, b_f⟩ := B9.out.three
        obtain ⟨fb_0, fb_1, fb_2, fb_3, fb_4, fb_f⟩ := Fb9.out.five
        go_wp2_with fail
        refine (c_FindFlow d1 d2 (y0, y1, y2, y3, y4) a3 d3.length c3 d3 _ rfl HDL.out X9.out).mono ?_
        rintro e w10 ⟨rfl, b10⟩
        clear b_0 b_1 b_2 b_f fb_0 fb_1 fb_2 fb_3 fb_4 fb_f
        have z10 := (b10).size
        have D10 := Lib.hid (Below.step D9.out b10 (by omega))
        have I10 := Lib.hid (I9.out.below b10)
        have T10 := Lib.hid (T9.out.keep b10)
        have Fb10 := Lib.hid (Fb9.out.keep b10)
        have X10 := Lib.hid (X9.out.below b10)
        have B10 := Lib.hid (B9.out.keep b10)
        have G10 := Lib.hid (Below.step G9.out b10 (by omega))
        clear D9 I9 T9 Fb9 X9 B9 G9
        clear b10
        rw [HF.out]
        obtain ⟨t_0, t_1, t_2, t_f⟩ := T10.out.three
        obtain ⟨fb_0, fb_1, fb_2, fb_3, fb_4, fb_f⟩ := Fb10.out.five
        go_wp2_with fail
        refine (c_FindFlow d1 d2 (y0, y1, y2, y3, y4) b n c1 es _ HN.out hn20 I10.out).mono ?_
        rintro e w11 ⟨rfl, b11⟩
        clear t_0 t_1 t_2 t_f fb_0 fb_1 fb_2 fb_3 fb_4 fb_f
        have z11 := (b11).size
        have D11 := Lib.hid (Below.step D10.out b11 (by omega))
        have I11 := Lib.hid (I10.out.below b11)
        have T11 := Lib.hid (T10.out.keep b11)
        have Fb11 := Lib.hid (Fb10.out.keep b11)
        have X11 := Lib.hid (X10.out.below b11)
        have B11 := Lib.hid (B10.out.keep b11)
        have G11 := Lib.hid (Below.step G10.out b11 (by omega))
        clear D10 I10 T10 Fb10 X10 B10 G10
        clear b11
        rcases hl0 with hl0 | ⟨hl0, rfl⟩
        · rw [hl0]
          go_wp2
          go_ret
          exact ⟨rfl, D11.out⟩
        · generalize findT (d1, d2, es) (y0, y1, y2, y3, y4) = M at *
          go_wp2
          go_ret
          exact ⟨rfl, D11.out⟩
end Go.Proofs.Ytdkdfehlmphikaa
